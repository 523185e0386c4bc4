/-
  What listed package variables hold; what a law's call hands back.
-/
import Derived.Test.YtbjkfkifkglplaaGreatDoorD5a
import Derived.Lib.LaidTab
set_option linter.unusedSectionVars false
set_option linter.unusedVariables false
set_option linter.unusedSimpArgs false
namespace Go.Den
open Go Go.RowKit Go.ChangeShapes Go.WideShapes Go.ChangeAt
mutual
def flat {H : Type} : DataW H → List Value
  | .lit (.int k n) => [.int k n]
  | .lit (.bool b) => [.bool b]
  | .lit (.string l) => [.string ⟨l.toArray⟩]
  | .agg ps => flatAll ps
  | _ => []
def flatAll {H : Type} : List (DataW H) → List Value
  | [] => []
  | d :: r => flat d ++ flatAll r
end
section
variable {P : Program}
def FlatT (P : Program) (T : TypeId) : Prop :=
  ∀ {H : Type} (enc : TypeId × Value → H) (w : World) (base : Nat) (spare : Nat → Bool) (held : Bool) (fuel : Nat) (cs : List Value) (x : DataW H × List MemPlace),
    DataW.trod enc P w base spare held fuel T cs = some x → cs = flat x.1
theorem flds_flat {c : TypeId → Ty → Bool} (hc : ∀ T t, c T t = true → t.plain = true → FlatT P T) {H : Type} {enc : TypeId × Value → H} {w : World} {base : Nat} {spare : Nat → Bool} {held : Bool} {m : Nat} {cs : List Value} :
    ∀ {fs : List Field} {t : Ty} {off : Nat} {xs : List (DataW H × List MemPlace)}, fldsChk P c fs t off = true → t.plain = true → cs.length = off + t.sz →
      (∀ (i : Nat) (f : Field), fs[i]? = some f → DataW.trod enc P w base spare held m f.type ((cs.drop f.offset).take (P.cellsOf f.type)) = xs[i]?) → xs.length = fs.length → cs.drop off = flatAll (xs.map (·.1))
  | [], t, off, xs, h, _, _, _, _ => by simp [fldsChk] at h
  | [f], t, off, xs, h, hp, hl, ht, hx => by
    simp only [fldsChk, Bool.and_eq_true] at h
    obtain ⟨y, rfl⟩ : ∃ y, xs = [y] := by
      match xs, hx with | [y], _ => exact ⟨y, rfl⟩
    have h0 := ht 0 f rfl
    rw [nbeq h.1, nbeq h.2.1] at h0
    have e := hc _ _ h.2.2 hp enc w base spare held m _ y h0
    rw [List.take_of_length_le (by rw [List.length_drop]; omega)] at e
    simp only [List.map_cons, List.map_nil, flatAll, List.append_nil]
    exact e
  | f :: g :: r, .prod a b, off, xs, h, hp, hl, ht, hx => by
    simp only [fldsChk, Bool.and_eq_true] at h
    simp only [Ty.plain, Bool.and_eq_true] at hp
    obtain ⟨y, ys, rfl⟩ : ∃ y ys, xs = y :: ys := by
      match xs, hx with | y :: ys, _ => exact ⟨y, ys, rfl⟩
    have h0 := ht 0 f rfl
    rw [nbeq h.1, nbeq h.2.1] at h0
    have e := hc _ _ h.2.2.1 hp.1 enc w base spare held m _ y h0
    have e2 := flds_flat hc (cs := cs) (xs := ys) h.2.2.2 hp.2 (by rw [hl]; simp only [Ty.sz]; omega) (fun i f hf => by simpa using ht (i + 1) f (by simpa using hf)) (by simpa using hx)
    simp only [List.map_cons, flatAll]
    rw [← e, ← e2, ← List.drop_drop, List.take_append_drop]
  | f :: g :: r, .int _, _, _, h, _, _, _, _ | f :: g :: r, .bool, _, _, h, _, _, _, _ | f :: g :: r, .str, _, _, h, _, _, _, _ | f :: g :: r, .list _, _, _, h, _, _, _, _
  | f :: g :: r, .fn _ _ _, _, _, h, _, _, _, _ | f :: g :: r, .alt _ _, _, _, h, _, _, _, _ | f :: g :: r, .fz, _, _, h, _, _, _, _ | f :: g :: r, .ref _, _, _, h, _, _, _, _ | f :: g :: r, .nl, _, _, h, _, _, _, _ => by simp [fldsChk] at h
theorem arr_flat {c : TypeId → Ty → Bool} (hc : ∀ T t, c T t = true → t.plain = true → FlatT P T) {e : TypeId} {H : Type} {enc : TypeId × Value → H} {w : World} {base : Nat} {spare : Nat → Bool} {held : Bool} {m : Nat} {cs : List Value} :
    ∀ {n : Nat} {t : Ty} {j : Nat} {xs : List (DataW H × List MemPlace)}, arrChk P c e n t = true → t.plain = true → cs.length = j * P.cellsOf e + t.sz → xs.length = n →
      (∀ i, i < n → DataW.trod enc P w base spare held m e ((cs.drop ((j + i) * P.cellsOf e)).take (P.cellsOf e)) = xs[i]?) → cs.drop (j * P.cellsOf e) = flatAll (xs.map (·.1))
  | 0, t, j, xs, h, _, _, _, _ => by simp [arrChk] at h
  | 1, t, j, xs, h, hp, hl, hx, ht => by
    simp only [arrChk, Bool.and_eq_true] at h
    obtain ⟨y, rfl⟩ : ∃ y, xs = [y] := by
      match xs, hx with | [y], _ => exact ⟨y, rfl⟩
    have h0 := ht 0 (by omega)
    have e' := hc _ _ h.2 hp enc w base spare held m _ y h0
    rw [List.take_of_length_le (by rw [List.length_drop, nbeq h.1, Nat.add_zero]; rw [nbeq h.1] at hl; omega)] at e'
    simp only [List.map_cons, List.map_nil, flatAll, List.append_nil]
    exact e'
  | n + 2, .prod a b, j, xs, h, hp, hl, hx, ht => by
    simp only [arrChk, Bool.and_eq_true] at h
    simp only [Ty.plain, Bool.and_eq_true] at hp
    obtain ⟨y, ys, rfl⟩ : ∃ y ys, xs = y :: ys := by
      match xs, hx with | y :: ys, _ => exact ⟨y, ys, rfl⟩
    have h0 := ht 0 (by omega)
    have e1 := hc _ _ h.2.1 hp.1 enc w base spare held m _ y h0
    have hs := nbeq h.1
    have e2 := arr_flat hc (e := e) (cs := cs) (n := n + 1) (j := j + 1) (xs := ys) h.2.2 hp.2 (by rw [hl, Nat.add_mul, Nat.one_mul, hs]; simp only [Ty.sz]; omega) (by simpa using hx)
      (fun i hi => by have := ht (i + 1) (by omega); rw [show j + (i + 1) = j + 1 + i by omega] at this; simpa using this)
    simp only [List.map_cons, flatAll]
    rw [← e1, ← e2, Nat.add_zero, Nat.add_mul j 1, Nat.one_mul, ← List.drop_drop, List.take_append_drop]
theorem flat_ok : ∀ (n : Nat) (T : TypeId) (t : Ty), tyChk P n T t = true → t.plain = true → FlatT P T := by
  intro n
  induction n with
  | zero => intro T t h; simp [tyChk] at h
  | succ n ih =>
    intro T t h hp
    simp only [tyChk] at h
    split at h
    · rename_i k j hu
      intro H enc w base spare held fuel cs x hx
      obtain ⟨n, rfl, rfl, hw⟩ := DataW.trod_int hu hx
      simp [flat]
    · rename_i hu
      intro H enc w base spare held fuel cs x hx
      obtain ⟨n, rfl, rfl⟩ := DataW.trod_bool hu hx
      simp [flat]
    · rename_i hu
      intro H enc w base spare held fuel cs x hx
      obtain ⟨s, rfl, rfl, hw⟩ := DataW.trod_string hu hx
      simp [flat]
    · simp [Ty.plain] at hp
    · rename_i F t hu
      simp only [Bool.and_eq_true] at h
      intro H enc w base spare held fuel cs x hx
      obtain ⟨xs, m, rfl, rfl, hl, hlen, hf⟩ := DataW.trod_struct hu hx
      have := flds_flat (fun T t h hp => fun {H} => ih T t h hp (H := H)) (cs := cs) (xs := xs) (enc := enc) (w := w) (base := base) (spare := spare) (held := held) (m := m) h.2 hp (by rw [hl, nbeq h.1, Nat.zero_add])
        (fun i f hfi => hf i f (by rw [← Array.getElem?_toList]; exact hfi)) (by rw [hlen]; simp)
      simpa [flat] using this
    · rename_i t' m e hu
      simp only [Bool.and_eq_true] at h
      intro H enc w base spare held fuel cs x hx
      obtain ⟨xs, m', rfl, rfl, hl, hlen, hf⟩ := DataW.trod_array hu hx
      have := arr_flat (fun T t h hp => fun {H} => ih T t h hp (H := H)) (e := e) (n := m) (j := 0) (cs := cs) (xs := xs) (enc := enc) (w := w) (base := base) (spare := spare) (held := held) (m := m') h.2 hp (by rw [hl, nbeq h.1, Nat.zero_mul, Nat.zero_add])
        hlen (fun i hi => by rw [Nat.zero_add]; exact hf i hi)
      simpa [flat] using this
    · cases h
theorem flat_parts {H : Type} (s : Nat) : ∀ (n : Nat) (cs : List Value) (ds : List (DataW H)), cs.length = n * s → ds.length = n → (∀ (i : Nat) (d : DataW H), ds[i]? = some d → (cs.drop (i * s)).take s = flat d) → cs = flatAll ds
  | 0, cs, ds, h1, h2, _ => by
    obtain rfl : cs = [] := List.eq_nil_of_length_eq_zero (by simpa using h1)
    obtain rfl : ds = [] := List.eq_nil_of_length_eq_zero h2
    simp [flatAll]
  | n + 1, cs, [], _, h2, _ => by simp at h2
  | n + 1, cs, d :: ds, h1, h2, hp => by
    have h0 := hp 0 d rfl
    have ih := flat_parts s n (cs.drop s) ds (by rw [List.length_drop, h1, Nat.add_mul]; omega) (by simpa using h2) (fun i e he => by
      have := hp (i + 1) e (by simpa using he)
      rw [List.drop_drop, show s + i * s = (i + 1) * s by rw [Nat.add_mul]; omega]
      exact this)
    simp only [flatAll]
    rw [← ih, ← h0, Nat.zero_mul, List.drop_zero, List.take_append_drop]
theorem flat_array {T : TypeId} {n e s : Nat} (hT : P.underlying T = some (.array n e)) (hc : P.cellsOf e = s) (hcT : P.cellsOf T = n * s) (h : FlatT P e) : FlatT P T := by
  intro H enc w base spare held fuel cs x hx
  obtain ⟨xs, m, rfl, rfl, hl, hlen, hf⟩ := DataW.trod_array hT hx
  show cs = flat (.agg (xs.map (·.1)))
  simp only [flat]
  refine flat_parts s n cs _ (hl.trans hcT) (by rw [List.length_map]; exact hlen) (fun i d hd => ?_)
  rw [List.getElem?_map] at hd
  obtain ⟨y, hy, rfl⟩ := Option.map_eq_some_iff.1 hd
  have hi : i < n := by rw [← hlen]; exact (List.getElem?_eq_some_iff.1 hy).1
  have := hf i hi
  rw [hc, hy] at this
  exact h enc w base spare held m _ y this
/-- Plain data as cells. -/
def cellsV : (t : Ty) → t.den → List Value
  | .int k, n => [.int k n] | .bool, b => [.bool b] | .str, s => [.string s] | .prod a b, x => cellsV a x.1 ++ cellsV b x.2 | _, _ => []
def scalar : Ty → Bool | .int _ | .bool | .str => true | .prod a b => scalar a && scalar b | _ => false
theorem K_cellsV {w : World} {J : Nat → Prop} : ∀ {t : Ty} {x : t.den}, scalar t = true → K w J t x (cellsV t x)
  | .int _, _, _ | .bool, _, _ | .str, _, _ => rfl
  | .prod a b, x, h => by
    simp only [scalar, Bool.and_eq_true] at h
    exact ⟨_, _, rfl, K_cellsV h.1, K_cellsV h.2⟩
theorem gv_tab {w : World} {J : Nat → Prop} {g : Nat} {cs : Array Value} {e : TypeId} {fz : Nat × Nat} {t : Ty} {xs : List t.den} (hs : scalar t = true) (hJ : J g) (hg : w.heap[g]? = some (.cells cs e fz)) (hL : cs.toList = (xs.map (cellsV t)).flatten) : GVRep w J g (.tab t xs) := by
  refine ⟨hJ, fun j x hx => ?_⟩
  have hR : Reps (K w J t) xs cs.toList := by
    rw [hL]
    clear hL hx
    induction xs with
    | nil => rfl
    | cons y ys ih => exact ⟨_, _, rfl, K_cellsV hs, ih⟩
  obtain ⟨p, c, q, hc, hp, hK, _⟩ := Reps.get (fun _ _ h => K_len h) hR hx
  refine ⟨c, hK, fun i u hu => ?_⟩
  rw [add_mk, add_mk, Nat.zero_add]
  have hlt := (List.getElem?_eq_some_iff.1 hu).1
  have e1 : cs.toList[j * t.sz + i]? = some u := by
    rw [hc, List.append_assoc, List.getElem?_append_right (by omega), hp, Nat.add_sub_cancel_left, List.getElem?_append_left hlt]; exact hu
  unfold World.cell?
  simp only [hg]
  simpa using e1
/-- A listed table, as data. -/
theorem laid_gv {name : String} {g T n el : Nat} {t : Ty} {xs : List t.den} (m : Nat) (hg : P.globalNamed name = some g) (ht : (P.globals[g]?).map (·.type) = some T) (hT : P.underlying T = some (.array n el)) (hc : P.cellsOf el = t.sz) (hcT : P.cellsOf T = n * t.sz) (hch : tyChk P m el t = true) (hp : t.plain = true) (hs : scalar t = true)
    {H : Type} {enc : TypeId × Value → H} {w : World} {base : Nat} {spare : Nat → Bool} {held : Bool} {fuel : Nat} {g' t' : Nat} {cs : Array Value} {d : DataW H} {p : List MemPlace}
    (h1 : P.globalNamed name = some g') (h2 : (P.globals[g']?).map (·.type) = some t') (h3 : w.var? P name = some cs) (h4 : DataW.trod enc P w base spare held fuel t' cs.toList = some (d, p)) (hL : flat d = (xs.map (cellsV t)).flatten) :
    GVRep w (fun b => b < w.heap.size) g (.tab t xs) := by
  obtain rfl := Option.some.inj (hg.symm.trans h1)
  obtain rfl := Option.some.inj (ht.symm.trans h2)
  have e := flat_array hT hc hcT (flat_ok m el t hch hp) enc w base spare held fuel _ _ h4
  unfold World.var? at h3
  rw [hg] at h3
  simp only [Option.bind_some] at h3
  split at h3
  · rename_i cs' el' fz hb
    cases h3
    exact gv_tab hs (Array.getElem?_eq_some_iff.1 hb).1 hb (e.trans hL)
  · cases h3
theorem laid_arr {name : String} {g : Nat} {k : IntKind} {zs : List Int} (hg : P.globalNamed name = some g) {w : World} (h : Lib.TabIs P w name k zs) : GVRep w (fun b => b < w.heap.size) g (.arr k zs) := by
  unfold Lib.TabIs World.var? at h
  rw [hg] at h
  simp only [Option.bind_some] at h
  split at h
  · rename_i cs' el' fz hb
    cases h
    exact ⟨(Array.getElem?_eq_some_iff.1 hb).1, el', fz, hb⟩
  · cases h
theorem laid_tab {name : String} {g t e n : Nat} {k : IntKind} {zs : List Int} (hg : P.globalNamed name = some g) (ht : (P.globals[g]?).map (·.type) = some t) (hu : P.underlying t = some (.array n e)) (he : P.underlying e = some (.int k)) (hce : P.cellsOf e = 1) (hct : P.cellsOf t = n)
    {H : Type} {enc : TypeId × Value → H} {w : World} {base : Nat} {spare : Nat → Bool} {held : Bool} {fuel : Nat} {g' t' : Nat} {cs : Array Value} {d : DataW H} {p : List MemPlace}
    (h1 : P.globalNamed name = some g') (h2 : (P.globals[g']?).map (·.type) = some t') (h3 : w.var? P name = some cs) (h4 : DataW.trod enc P w base spare held fuel t' cs.toList = some (d, p)) (hL : d = Lib.tabData k zs) : GVRep w (fun b => b < w.heap.size) g (.arr k zs) := by
  obtain rfl := Option.some.inj (hg.symm.trans h1)
  obtain rfl := Option.some.inj (ht.symm.trans h2)
  subst hL
  have e := Lib.cells_of_tab hu he hce hct h4
  refine laid_arr hg ?_
  unfold Lib.TabIs
  rw [h3, ← e]
theorem res_bool {m : Nat} {w : World} {J : Nat → Prop} {b : Bool} {v : Value} (h : ResRep m w J [⟨false, [.v .bool]⟩] b v) : v = .bool b := by
  obtain ⟨J', vs, bs, ps, _, ⟨hK, _⟩, _, ⟨c, d, p, q, h1, h2, h3, h4, h5⟩, rfl⟩ := h
  have hK : vs = [.bool b] := hK
  obtain ⟨rfl, rfl⟩ := h5
  rw [hK] at h1
  simp only at h4
  rw [h4, List.append_nil] at h1
  simp only [List.cons.injEq, and_true] at h1
  rw [h3, ← h1]; rfl
end
end Go.Den
