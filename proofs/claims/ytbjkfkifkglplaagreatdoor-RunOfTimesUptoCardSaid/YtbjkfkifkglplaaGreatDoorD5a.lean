/-
  Arguments that are read as data lie in memory as the abstract machine's data do.
-/
import Derived.Test.YtbjkfkifkglplaaGreatDoorD4f
import Derived.ProofKit
import Derived.OpenShut
import Derived.ChangeOld
import Derived.SizedLaws
set_option linter.unusedSectionVars false
set_option linter.unusedVariables false
set_option linter.unusedSimpArgs false
namespace Go.Den
open Go Go.RowKit Go.ChangeShapes Go.WideShapes Go.ChangeAt
/-- How many bytes data of a kind take at the least. -/
def mb0 : Ty → Nat
  | .int .i64 | .int .u64 => 8 | .int .i32 | .int .u32 => 4 | .str => 16 | .list _ => 24 | .prod a b => mb0 a + mb0 b | _ => 1
def has8 : Ty → Bool
  | .int .i64 | .int .u64 | .str | .list _ => true | .prod a b => has8 a || has8 b | _ => false
/-- The least bytes of an element: a struct's are a multiple of eight where a part's are. -/
def mb (t : Ty) : Nat := if has8 t then (mb0 t + 7) / 8 * 8 else mb0 t
/-- What is known of data that came in. -/
def okT : (t : Ty) → t.den → Prop
  | .int k, n => (Lit.int k n).wf = true
  | .str, s => s.size ≤ 140737488351232
  | .list t, l => (∀ x ∈ l, okT t x) ∧ List.length l ≤ 140737488351232 ∧ List.length l * mb t ≤ 140737488351232
  | .prod a b, x => okT a x.1 ∧ okT b x.2
  | _, _ => True
def fldsChk (P : Program) (c : TypeId → Ty → Bool) : List Field → Ty → Nat → Bool
  | [f], t, off => Nat.beq f.offset off && (Nat.beq (P.cellsOf f.type) t.sz && c f.type t)
  | f :: g :: r, .prod a b, off => Nat.beq f.offset off && (Nat.beq (P.cellsOf f.type) a.sz && (c f.type a && fldsChk P c (g :: r) b (off + a.sz)))
  | _, _, _ => false
def arrChk (P : Program) (c : TypeId → Ty → Bool) (e : TypeId) : Nat → Ty → Bool
  | 1, t => Nat.beq (P.cellsOf e) t.sz && c e t
  | n + 2, .prod a b => Nat.beq (P.cellsOf e) a.sz && (c e a && arrChk P c e (n + 1) b)
  | _, _ => false
def tyChk (P : Program) : Nat → TypeId → Ty → Bool
  | 0, _, _ => false
  | n + 1, T, t => match P.underlying T, t with
    | some (.int k), .int j => kbeq k j
    | some .bool, .bool => true
    | some .string, .str => true
    | some (.slice e), .list u => Nat.beq (P.cellsOf e) u.sz && (Nat.ble 1 (P.bytesOf e) && (Nat.ble (mb u) (P.bytesOf e) && tyChk P n e u))
    | some (.struct F), t => Nat.beq (P.cellsOf T) t.sz && fldsChk P (tyChk P n) F.toList t 0
    | some (.array m e), t => Nat.beq (P.cellsOf T) t.sz && arrChk P (tyChk P n) e m t
    | _, _ => false
section
variable {P : Program}
def RdT (P : Program) (T : TypeId) (t : Ty) : Prop :=
  ∀ {H : Type} (enc : TypeId × Value → H) (w : World) (base : Nat) (spare : Nat → Bool) (held : Bool) (fuel : Nat) (cs : List Value) (x : DataW H × List MemPlace),
    DataW.trod enc P w base spare held fuel T cs = some x → (∀ n ∈ x.1.weights P T, n ≤ 140737488351232) → ∃ a : t.den, K w (fun b => b < w.heap.size) t a cs ∧ okT t a
theorem weightsAll_mem {H : Type} {e : TypeId} {n : Nat} : ∀ {ds : List (DataW H)} {i : Nat} {d : DataW H}, ds[i]? = some d → n ∈ d.weights P e → n ∈ DataW.weightsAll P e ds
  | [], _, _, h, _ => by simp at h
  | x :: r, 0, d, h, hn => by
    obtain rfl : x = d := by simpa using h
    simp [DataW.weightsAll, hn]
  | x :: r, i + 1, d, h, hn => by
    have := weightsAll_mem (ds := r) (i := i) (by simpa using h) hn
    simp [DataW.weightsAll, this]
theorem mem_agg {H : Type} {T : TypeId} {fs : Array Field} {parts : List (DataW H)} {j n : Nat} {f : Field} {d : DataW H} (hT : P.underlying T = some (.struct fs)) (ht : fs[j]? = some f) (hd : parts[j]? = some d) (hn : n ∈ d.weights P f.type) :
    n ∈ (DataW.agg parts).weights P T := by
  simp only [DataW.weights, hT]
  exact DataW.weights_mem_each (j := j) (t := f.type) (by rw [List.getElem?_map, Array.getElem?_toList, ht]; rfl) hd n hn
theorem cell_spot {w : World} {a : Addr} {v : Value} (h : w.cell? a = some v) : a.spot = none ∧ a.block < w.heap.size := by
  unfold World.cell? at h
  split at h
  · rename_i hb
    refine ⟨?_, (Array.getElem?_eq_some_iff.1 hb).1⟩
    cases hs : a.spot with
    | none => rfl
    | some => rw [hs] at h; simp at h
  · cases h
theorem flds_ok {c : TypeId → Ty → Bool} (hc : ∀ T t, c T t = true → RdT P T t) {H : Type} {enc : TypeId × Value → H} {w : World} {base : Nat} {spare : Nat → Bool} {held : Bool} {m : Nat} {cs : List Value} :
    ∀ {fs : List Field} {t : Ty} {off : Nat} {xs : List (DataW H × List MemPlace)}, fldsChk P c fs t off = true → cs.length = off + t.sz →
      (∀ (i : Nat) (f : Field), fs[i]? = some f → DataW.trod enc P w base spare held m f.type ((cs.drop f.offset).take (P.cellsOf f.type)) = xs[i]?) → xs.length = fs.length →
      (∀ (i : Nat) (f : Field) (y : DataW H × List MemPlace), fs[i]? = some f → xs[i]? = some y → ∀ n ∈ y.1.weights P f.type, n ≤ 140737488351232) →
      ∃ a : t.den, K w (fun b => b < w.heap.size) t a (cs.drop off) ∧ okT t a
  | [], t, off, xs, h, _, _, _, _ => by simp [fldsChk] at h
  | [f], t, off, xs, h, hl, ht, hx, hw => by
    simp only [fldsChk, Bool.and_eq_true] at h
    obtain ⟨y, rfl⟩ : ∃ y, xs = [y] := by
      match xs, hx with | [y], _ => exact ⟨y, rfl⟩
    have h0 := ht 0 f rfl
    rw [nbeq h.1, nbeq h.2.1] at h0
    obtain ⟨a, hK, ho⟩ := hc _ _ h.2.2 enc w base spare held m _ y h0 (hw 0 f y rfl rfl)
    exact ⟨a, by rw [List.take_of_length_le (by rw [List.length_drop]; omega)] at hK; exact hK, ho⟩
  | f :: g :: r, .prod a b, off, xs, h, hl, ht, hx, hw => by
    simp only [fldsChk, Bool.and_eq_true] at h
    obtain ⟨y, ys, rfl⟩ : ∃ y ys, xs = y :: ys := by
      match xs, hx with | y :: ys, _ => exact ⟨y, ys, rfl⟩
    have h0 := ht 0 f rfl
    rw [nbeq h.1, nbeq h.2.1] at h0
    obtain ⟨p, hK, ho⟩ := hc _ _ h.2.2.1 enc w base spare held m _ y h0 (hw 0 f y rfl rfl)
    obtain ⟨q, hK2, ho2⟩ := flds_ok hc (cs := cs) (xs := ys) h.2.2.2 (by rw [hl]; simp only [Ty.sz]; omega) (fun i f hf => by simpa using ht (i + 1) f (by simpa using hf)) (by simpa using hx)
      (fun i f y hf hy => hw (i + 1) f y (by simpa using hf) (by simpa using hy))
    refine ⟨(p, q), ⟨_, _, ?_, hK, hK2⟩, ho, ho2⟩
    rw [← List.drop_drop, List.take_append_drop]
  | f :: g :: r, .int _, _, _, h, _, _, _, _ | f :: g :: r, .bool, _, _, h, _, _, _, _ | f :: g :: r, .str, _, _, h, _, _, _, _ | f :: g :: r, .list _, _, _, h, _, _, _, _
  | f :: g :: r, .fn _ _ _, _, _, h, _, _, _, _ | f :: g :: r, .alt _ _, _, _, h, _, _, _, _ | f :: g :: r, .fz, _, _, h, _, _, _, _ | f :: g :: r, .ref _, _, _, h, _, _, _, _ | f :: g :: r, .nl, _, _, h, _, _, _, _ => by simp [fldsChk] at h
theorem arr_ok {c : TypeId → Ty → Bool} (hc : ∀ T t, c T t = true → RdT P T t) {e : TypeId} {H : Type} {enc : TypeId × Value → H} {w : World} {base : Nat} {spare : Nat → Bool} {held : Bool} {m : Nat} {cs : List Value} :
    ∀ {n : Nat} {t : Ty} {j : Nat} {xs : List (DataW H × List MemPlace)}, arrChk P c e n t = true → cs.length = j * P.cellsOf e + t.sz → xs.length = n →
      (∀ i, i < n → DataW.trod enc P w base spare held m e ((cs.drop ((j + i) * P.cellsOf e)).take (P.cellsOf e)) = xs[i]?) →
      (∀ (i : Nat) (y : DataW H × List MemPlace), xs[i]? = some y → ∀ n ∈ y.1.weights P e, n ≤ 140737488351232) →
      ∃ a : t.den, K w (fun b => b < w.heap.size) t a (cs.drop (j * P.cellsOf e)) ∧ okT t a
  | 0, t, j, xs, h, _, _, _, _ => by simp [arrChk] at h
  | 1, t, j, xs, h, hl, hx, ht, hw => by
    simp only [arrChk, Bool.and_eq_true] at h
    obtain ⟨y, rfl⟩ : ∃ y, xs = [y] := by
      match xs, hx with | [y], _ => exact ⟨y, rfl⟩
    have h0 := ht 0 (by omega)
    obtain ⟨a, hK, ho⟩ := hc _ _ h.2 enc w base spare held m _ y h0 (hw 0 y rfl)
    exact ⟨a, by rw [List.take_of_length_le (by rw [List.length_drop, nbeq h.1, Nat.add_zero]; rw [nbeq h.1] at hl; omega)] at hK; exact hK, ho⟩
  | n + 2, .prod a b, j, xs, h, hl, hx, ht, hw => by
    simp only [arrChk, Bool.and_eq_true] at h
    obtain ⟨y, ys, rfl⟩ : ∃ y ys, xs = y :: ys := by
      match xs, hx with | y :: ys, _ => exact ⟨y, ys, rfl⟩
    have h0 := ht 0 (by omega)
    obtain ⟨p, hK, ho⟩ := hc _ _ h.2.1 enc w base spare held m _ y h0 (hw 0 y rfl)
    have hs := nbeq h.1
    obtain ⟨q, hK2, ho2⟩ := arr_ok hc (e := e) (cs := cs) (n := n + 1) (j := j + 1) (xs := ys) h.2.2 (by rw [hl, Nat.add_mul, Nat.one_mul, hs]; simp only [Ty.sz]; omega) (by simpa using hx)
      (fun i hi => by have := ht (i + 1) (by omega); rw [show j + (i + 1) = j + 1 + i by omega] at this; simpa using this) (fun i y hy => hw (i + 1) y (by simpa using hy))
    refine ⟨(p, q), ⟨_, _, ?_, hK, hK2⟩, ho, ho2⟩
    rw [Nat.add_zero, Nat.add_mul j 1, Nat.one_mul, ← List.drop_drop, List.take_append_drop]
theorem mem_arr {H : Type} {T e : TypeId} {m : Nat} {parts : List (DataW H)} {j n : Nat} {d : DataW H} (hT : P.underlying T = some (.array m e)) (hd : parts[j]? = some d) (hn : n ∈ d.weights P e) : n ∈ (DataW.agg parts).weights P T := by
  simp only [DataW.weights, hT]
  exact weightsAll_mem hd hn
theorem rd_ok : ∀ (n : Nat) (T : TypeId) (t : Ty), tyChk P n T t = true → RdT P T t := by
  intro n
  induction n with
  | zero => intro T t h; simp [tyChk] at h
  | succ n ih =>
    intro T t h
    simp only [tyChk] at h
    split at h
    · rename_i k j hu
      intro H enc w base spare held fuel cs x hx _
      obtain ⟨n, rfl, rfl, hw⟩ := DataW.trod_int hu hx
      obtain rfl := kbeq_eq h
      exact ⟨n, rfl, hw⟩
    · rename_i hu
      intro H enc w base spare held fuel cs x hx _
      obtain ⟨n, rfl, rfl⟩ := DataW.trod_bool hu hx
      exact ⟨n, rfl, trivial⟩
    · rename_i hu
      intro H enc w base spare held fuel cs x hx hs
      obtain ⟨s, rfl, rfl, hw⟩ := DataW.trod_string hu hx
      refine ⟨s, rfl, ?_⟩
      have := hs s.data.toList.length (by simp [DataW.weights])
      show s.size ≤ 140737488351232
      simpa using this
    · rename_i e u hu
      simp only [Bool.and_eq_true] at h
      have hce := nbeq h.1
      have hby := Nat.le_of_ble_eq_true h.2.1
      have hmb := Nat.le_of_ble_eq_true h.2.2.1
      have hrd : RdT P e u := fun {H} => ih e u h.2.2.2 (H := H)
      intro H enc w base spare held fuel cs x hx hs
      rcases DataW.trod_slice hu hx with ⟨rfl, rfl⟩ | ⟨a, len, cap, els, rest, m, rfl, rfl, rfl, hb, hlc, hcm, hlen, hel, _, _⟩
      · exact ⟨[], ⟨none, 0, rfl, Nat.le_refl _, by simp, .inl rfl⟩, fun x hx => (by cases hx), by simp, by simp⟩
      · have hs1 : ∀ (i : Nat) (y : DataW H × List MemPlace), els[i]? = some y → ∀ n ∈ y.1.weights P e, n ≤ 140737488351232 := fun i y hy n hn => hs n (by
          simp only [DataW.weights, hu]
          exact List.mem_cons_of_mem _ (List.mem_append_left _ (weightsAll_mem (i := i) (by simp [hy]) hn)))
        have hs2 : len ≤ 140737488351232 := by
          have h1 := hs _ (by simp only [DataW.weights, hu]; exact List.mem_cons_self)
          rw [List.length_map, List.length_map] at h1
          have h2 : len * 1 ≤ (els.length + rest.length) * P.bytesOf e := Nat.mul_le_mul (by omega) hby
          omega
        have hs3 : len * mb u ≤ 140737488351232 := by
          have h1 := hs _ (by simp only [DataW.weights, hu]; exact List.mem_cons_self)
          rw [List.length_map, List.length_map] at h1
          have h2 : len * mb u ≤ (els.length + rest.length) * P.bytesOf e := Nat.mul_le_mul (by omega) hmb
          omega
        have key : ∀ m', m' ≤ len → ∃ l : List u.den, l.length = m' ∧ ∀ (i : Nat) (x : u.den), l[i]? = some x → (∃ c, w.cells? base (a.add (i * u.sz)) u.sz = some c ∧ K w (fun b => b < w.heap.size) u x c) ∧ okT u x := by
          intro m'
          induction m' with
          | zero => intro _; exact ⟨[], rfl, fun i x hx => by simp at hx⟩
          | succ m' ihm =>
            intro hm
            obtain ⟨l, hl, hp⟩ := ihm (by omega)
            have he := hel m' (by omega)
            have hy : els[m']? = some els[m'] := List.getElem?_eq_getElem (by omega)
            rw [hy, hce] at he
            obtain ⟨c, hcc, ht⟩ := Option.bind_eq_some_iff.1 he
            obtain ⟨z, hk, hok⟩ := hrd enc w base spare held m c _ ht (hs1 m' _ hy)
            refine ⟨l ++ [z], by simp [hl], fun i x hx => ?_⟩
            rcases Nat.lt_or_ge i l.length with hi | hi
            · rw [List.getElem?_append_left hi] at hx
              exact hp i x hx
            · rw [List.getElem?_append_right hi] at hx
              have hi0 : i - l.length = 0 := by
                rcases Nat.eq_zero_or_pos (i - l.length) with h0 | h0
                · exact h0
                · rw [List.getElem?_eq_none (by simp; omega)] at hx; cases hx
              rw [hi0] at hx
              obtain rfl : z = x := by simpa using hx
              obtain rfl : i = m' := by omega
              exact ⟨⟨c, hcc, hk⟩, hok⟩
        obtain ⟨l, hl, hp⟩ := key len (Nat.le_refl _)
        refine ⟨l, ⟨some a, cap, by rw [hl], by rw [hl]; exact hlc, hcm, ?_⟩, fun x hx => ?_, by show List.length l ≤ _; rw [hl]; exact hs2, by show List.length l * _ ≤ _; rw [hl]; exact hs3⟩
        · cases l with
          | nil => exact .inl rfl
          | cons x0 l0 =>
            right
            have at_ : ∀ (j : Nat) (x : u.den), (x0 :: l0)[j]? = some x → ∃ d, K w (fun b => b < w.heap.size) u x d ∧ CellsAt w (a.add (j * u.sz)) d := fun j x hx => by
              obtain ⟨⟨c, hcc, hk⟩, _⟩ := hp j x hx
              obtain ⟨_, hcl, hcell⟩ := World.cells?_some hcc
              refine ⟨c, hk, fun i v hv => ?_⟩
              have hi : i < u.sz := by rw [← hcl]; exact (List.getElem?_eq_some_iff.1 hv).1
              rw [hcell i hi]
              exact hv
            obtain ⟨d, hK, hA⟩ := at_ 0 x0 rfl
            have hd : 0 < d.length := by rw [K_len hK]; exact Ty.sz_pos u
            have h0 := hA 0 d[0] (List.getElem?_eq_getElem hd)
            rw [Nat.zero_mul, add_zero, add_zero] at h0
            obtain ⟨h1, h2⟩ := cell_spot h0
            exact ⟨a, rfl, ⟨h2, h1⟩, at_⟩
        · obtain ⟨i, hi⟩ := List.getElem?_of_mem hx
          exact (hp i x hi).2
    · rename_i F t hu
      simp only [Bool.and_eq_true] at h
      intro H enc w base spare held fuel cs x hx hs
      obtain ⟨xs, m, rfl, rfl, hl, hlen, hf⟩ := DataW.trod_struct hu hx
      obtain ⟨a, hK, ho⟩ := flds_ok (fun T t h => ih T t h) (cs := cs) (xs := xs) (enc := enc) (w := w) (base := base) (spare := spare) (held := held) (m := m) h.2 (by rw [hl, nbeq h.1, Nat.zero_add])
        (fun i f hfi => hf i f (by rw [← Array.getElem?_toList]; exact hfi)) (by rw [hlen]; simp)
        (fun i f y hfi hy n hn => hs n (mem_agg (j := i) hu (by rw [← Array.getElem?_toList]; exact hfi) (by rw [List.getElem?_map, hy]; rfl) hn))
      exact ⟨a, hK, ho⟩
    · rename_i t' m e hu
      simp only [Bool.and_eq_true] at h
      intro H enc w base spare held fuel cs x hx hs
      obtain ⟨xs, m', rfl, rfl, hl, hlen, hf⟩ := DataW.trod_array hu hx
      obtain ⟨a, hK, ho⟩ := arr_ok (fun T t h => ih T t h) (e := e) (n := m) (j := 0) (cs := cs) (xs := xs) (enc := enc) (w := w) (base := base) (spare := spare) (held := held) (m := m') h.2 (by rw [hl, nbeq h.1, Nat.zero_mul, Nat.zero_add])
        hlen (fun i hi => by rw [Nat.zero_add]; exact hf i hi) (fun i y hy n hn => hs n (mem_arr (j := i) hu (by rw [List.getElem?_map, hy]; rfl) hn))
      rw [Nat.zero_mul, List.drop_zero] at hK
      exact ⟨a, hK, ho⟩
    · cases h
theorem okWide_arr {w : World} {r : Reach} {base : Nat} {t e : TypeId} {n : Nat} {v : Value} (ht : P.underlying t = some (.array n e)) (h : Value.okWide P w r base t v) : ∃ cs, v = .agg cs ∧ cs.size = P.cellsOf t := by
  simp only [Value.okWide, ht] at h
  obtain ⟨cs, h1, h2, _⟩ := h
  exact ⟨cs, h1, h2⟩
end
end Go.Den
