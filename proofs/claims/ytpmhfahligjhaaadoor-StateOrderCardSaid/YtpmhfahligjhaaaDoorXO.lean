/-
  Reading arguments: a datum that is read gives the plain value that the printed contracts speak of, and bounds its size. (Template: YtpmhfahligjhaaaDoor is the seat's Name.)
-/
import Derived.Test.YtpmhfahligjhaaaDoorRows
import Derived.Test.YtpmhfahligjhaaaDoorXW
import Derived.ProofKit
import Derived.OpenShut
import Derived.ChangeOld
import Derived.SizedLaws
import Derived.Lib.LaidTab
namespace Go.Proofs.YtpmhfahligjhaaaDoorXO
set_option linter.unusedVariables false
set_option linter.unusedSimpArgs false
open Go Go.RowKit Go.ChangeShapes Go.WideShapes Go.ChangeAt Go.Proofs.YtpmhfahligjhaaaDoor Go.Proofs.YtpmhfahligjhaaaDoorW.PrintWords Go.Proofs.YtpmhfahligjhaaaDoorXW
/-- Reading as data gives a value of this kind, what is known of it, and its weight. -/
def Rd {α : Type} (P : Program) (T : TypeId) (k : Kd α) (ok : α → Prop) (wt : α → Nat) : Prop :=
  ∀ {H : Type} (enc : TypeId × Value → H) (w : World) (base : Nat) (spare : Nat → Bool) (held : Bool) (fuel : Nat) (cs : List Value) (x : DataW H × List MemPlace),
    DataW.trod enc P w base spare held fuel T cs = some x → (∀ n ∈ x.1.weights P T, n ≤ 140737488351232) → ∃ a, k.K w a cs ∧ ok a ∧ wt a ≤ Rows.uptoBulk x.1
section
variable {P : Program} {T : TypeId}
theorem Rd.int {k : IntKind} (hT : P.underlying T = some (.int k)) : Rd P T (Kd.int k) (fun n => (Lit.int k n).wf = true) (fun _ => 1) := by
  intro H enc w base spare held fuel cs x hx _
  obtain ⟨n, rfl, rfl, hw⟩ := DataW.trod_int hT hx
  exact ⟨n, rfl, hw, by simp [Rows.uptoBulk]⟩
theorem Rd.bool (hT : P.underlying T = some .bool) : Rd P T Kd.bool (fun _ => True) (fun _ => 1) := by
  intro H enc w base spare held fuel cs x hx _
  obtain ⟨n, rfl, rfl⟩ := DataW.trod_bool hT hx
  exact ⟨n, rfl, trivial, by simp [Rows.uptoBulk]⟩
theorem Rd.str (hT : P.underlying T = some .string) : Rd P T Kd.string (fun s => s.size ≤ 140737488351232) (fun s => s.size + 1) := by
  intro H enc w base spare held fuel cs x hx hs
  obtain ⟨s, rfl, rfl, hw⟩ := DataW.trod_string hT hx
  exact ⟨s, rfl, by have := hs s.data.toList.length (by simp [DataW.weights]); rw [data_length] at this; exact this, by simp [Rows.uptoBulk]⟩
theorem weightsAll_mem {H : Type} {e : TypeId} {n : Nat} : ∀ {ds : List (DataW H)} {i : Nat} {d : DataW H}, ds[i]? = some d → n ∈ d.weights P e → n ∈ DataW.weightsAll P e ds
  | [], _, _, h, _ => by simp at h
  | x :: r, 0, d, h, hn => by
    obtain rfl : x = d := by simpa using h
    simp [DataW.weightsAll, hn]
  | x :: r, i + 1, d, h, hn => by
    have := weightsAll_mem (ds := r) (i := i) (by simpa using h) hn
    simp [DataW.weightsAll, this]
theorem mem_agg {H : Type} {fs : Array Field} {parts : List (DataW H)} {j n : Nat} {t : TypeId} {d : DataW H} (hT : P.underlying T = some (.struct fs)) (ht : (fs.toList.map (·.type))[j]? = some t) (hd : parts[j]? = some d) (hn : n ∈ d.weights P t) :
    n ∈ (DataW.agg parts).weights P T := by
  simp only [DataW.weights, hT]
  exact DataW.weights_mem_each ht hd n hn
theorem add_of_add' (a : Addr) (i j : Nat) : (a.add i).add j = a.add (i + j) := by
  unfold Addr.add
  by_cases hi : i = 0 <;> by_cases hj : j = 0 <;> simp [hi, hj, Nat.add_assoc]
theorem sum_le {α : Type} {H : Type} (wt : α → Nat) : ∀ (l : List α) (ds : List (DataW H)), l.length = ds.length → (∀ (i : Nat) (x : α), l[i]? = some x → ∃ y, ds[i]? = some y ∧ wt x ≤ Rows.uptoBulk y) → (l.map wt).sum ≤ Rows.uptoBulkAll ds
  | [], [], _, _ => by simp [Rows.uptoBulkAll]
  | x :: l, y :: ds, h, hp => by
    have h0 := hp 0 x rfl
    obtain ⟨z, hz, hle⟩ := h0
    obtain rfl : y = z := by simpa using hz
    have ih := sum_le wt l ds (by simpa using h) (fun i u hu => hp (i + 1) u (by simpa using hu))
    simp only [List.map_cons, List.sum_cons, Rows.uptoBulkAll]
    omega
  | [], _ :: _, h, _ => by simp at h
  | _ :: _, [], h, _ => by simp at h
theorem Rd.slice {α : Type} {e : TypeId} {d : Kd α} {ok : α → Prop} {wt : α → Nat} {B : Nat} (hT : P.underlying T = some (.slice e)) (hc : P.cellsOf e = d.sz) (hB : P.bytesOf e = B) (h : Rd P e d ok wt) :
    Rd P T (Kd.slice e d) (fun l => (∀ x ∈ l, ok x) ∧ l.length * B ≤ 140737488351232) (fun l => (l.map wt).sum + 1) := by
  intro H enc w base spare held fuel cs x hx hs
  rcases DataW.trod_slice hT hx with ⟨rfl, rfl⟩ | ⟨a, len, cap, elems, rest, n, rfl, rfl, rfl, hb, hlc, hcm, hlen, hel, _, _⟩
  · exact ⟨[], ⟨none, 0, rfl, Nat.le_refl _, Kd.C_nil d w⟩, ⟨fun x hx => (by cases hx), by simp⟩, by simp [Rows.uptoBulk]⟩
  · have hs1 : ∀ (i : Nat) (y : DataW H × List MemPlace), elems[i]? = some y → ∀ n ∈ y.1.weights P e, n ≤ 140737488351232 := fun i y hy n hn => hs n (by
      simp only [DataW.weights, hT]
      exact List.mem_cons_of_mem _ (List.mem_append_left _ (weightsAll_mem (i := i) (by simp [hy]) hn)))
    have hs2 : len * B ≤ 140737488351232 := by
      have h1 := hs _ (by simp only [DataW.weights, hT]; exact List.mem_cons_self)
      rw [List.length_map, List.length_map, hB] at h1
      have h2 : len * B ≤ (elems.length + rest.length) * B := Nat.mul_le_mul_right _ (by omega)
      omega
    have key : ∀ m, m ≤ len → ∃ l : List α, l.length = m ∧ ∀ (i : Nat) (x : α), l[i]? = some x → (∃ c, w.cells? base (a.add (i * d.sz)) d.sz = some c ∧ d.K w x c) ∧ ok x ∧ ∃ y, elems[i]? = some y ∧ wt x ≤ Rows.uptoBulk y.1 := by
      intro m
      induction m with
      | zero => intro _; exact ⟨[], rfl, fun i x hx => by simp at hx⟩
      | succ m ih =>
        intro hm
        obtain ⟨l, hl, hp⟩ := ih (by omega)
        have he := hel m (by omega)
        have hy : elems[m]? = some elems[m] := List.getElem?_eq_getElem (by omega)
        rw [hy, hc] at he
        obtain ⟨c, hcc, ht⟩ := Option.bind_eq_some_iff.1 he
        obtain ⟨z, hk, hok, hwt⟩ := h enc w base spare held n c _ ht (hs1 m _ hy)
        refine ⟨l ++ [z], by simp [hl], fun i x hx => ?_⟩
        rcases Nat.lt_or_ge i l.length with hi | hi
        · rw [List.getElem?_append_left hi] at hx
          exact hp i x hx
        · rw [List.getElem?_append_right hi] at hx
          have hi0 : i - l.length = 0 := by
            rcases Nat.eq_zero_or_pos (i - l.length) with h0 | h0
            · exact h0
            · rw [List.getElem?_eq_none (by simp; omega)] at hx; cases hx
          rw [hi0] at hx
          obtain rfl : z = x := by simpa using hx
          obtain rfl : i = m := by omega
          exact ⟨⟨c, hcc, hk⟩, hok, _, hy, hwt⟩
    obtain ⟨l, hl, hp⟩ := key len (Nat.le_refl _)
    refine ⟨l, ⟨some a, cap, by rw [hl], by omega, hl ▸ ⟨hl, ?_, fun hn => ⟨a, rfl, fun j p hj => ?_⟩⟩⟩, ⟨fun x hx => ?_, by rw [hl]; exact hs2⟩, ?_⟩
    · unfold maxLen at hcm; omega
    · obtain ⟨⟨c, hcc, hk⟩, _, _⟩ := hp j p hj
      obtain ⟨_, hcl, hcell⟩ := World.cells?_some hcc
      refine ⟨c, hcl, hk, fun i u hu => ?_⟩
      have hi : i < d.sz := by rw [← hcl]; exact (List.getElem?_eq_some_iff.1 hu).1
      rw [← add_of_add', hcell i hi]
      exact hu
    · obtain ⟨i, hi⟩ := List.getElem?_of_mem hx
      exact (hp i x hi).2.1
    · have := sum_le wt l (elems.map (·.1)) (by rw [List.length_map]; omega) (fun i x hx => by
        obtain ⟨_, _, y, hy, hle⟩ := hp i x hx
        exact ⟨y.1, by simp [hy], hle⟩)
      simp only [Rows.uptoBulk]
      omega
theorem split_at {α : Type} (cs : List α) (o s : Nat) : cs.drop o = (cs.drop o).take s ++ cs.drop (o + s) := by
  rw [← List.drop_drop, List.take_append_drop]
theorem split_end {α : Type} (cs : List α) (o s : Nat) (h : cs.length = o + s) : cs.drop o = (cs.drop o).take s := by
  rw [List.take_of_length_le (by rw [List.length_drop]; omega)]
end
/-! What a listed variable's datum says of its cells. -/
mutual
def flat {H : Type} : DataW H → List Value
  | .lit (.int k n) => [.int k n]
  | .lit (.bool b) => [.bool b]
  | .lit (.string l) => [.string ⟨l.toArray⟩]
  | .agg ps => flatAll ps
  | _ => []
def flatAll {H : Type} : List (DataW H) → List Value
  | [] => []
  | d :: r => flat d ++ flatAll r
end
def Flat (P : Program) (T : TypeId) : Prop :=
  ∀ {H : Type} (enc : TypeId × Value → H) (w : World) (base : Nat) (spare : Nat → Bool) (held : Bool) (fuel : Nat) (cs : List Value) (x : DataW H × List MemPlace),
    DataW.trod enc P w base spare held fuel T cs = some x → cs = flat x.1
section
variable {P : Program} {T : TypeId}
theorem Flat.int {k : IntKind} (hT : P.underlying T = some (.int k)) : Flat P T := by
  intro H enc w base spare held fuel cs x hx
  obtain ⟨n, rfl, rfl, hw⟩ := DataW.trod_int hT hx
  simp [flat]
theorem Flat.bool (hT : P.underlying T = some .bool) : Flat P T := by
  intro H enc w base spare held fuel cs x hx
  obtain ⟨n, rfl, rfl⟩ := DataW.trod_bool hT hx
  simp [flat]
theorem Flat.str (hT : P.underlying T = some .string) : Flat P T := by
  intro H enc w base spare held fuel cs x hx
  obtain ⟨s, rfl, rfl, hw⟩ := DataW.trod_string hT hx
  simp [flat]
theorem flat_parts {H : Type} (s : Nat) : ∀ (n : Nat) (cs : List Value) (ds : List (DataW H)), cs.length = n * s → ds.length = n → (∀ (i : Nat) (d : DataW H), ds[i]? = some d → (cs.drop (i * s)).take s = flat d) → cs = flatAll ds
  | 0, cs, ds, h1, h2, _ => by
    obtain rfl : cs = [] := List.eq_nil_of_length_eq_zero (by simpa using h1)
    obtain rfl : ds = [] := List.eq_nil_of_length_eq_zero h2
    simp [flatAll]
  | n + 1, cs, [], _, h2, _ => by simp at h2
  | n + 1, cs, d :: ds, h1, h2, hp => by
    have h0 := hp 0 d rfl
    have ih := flat_parts s n (cs.drop s) ds (by rw [List.length_drop, h1, Nat.add_mul]; omega) (by simpa using h2) (fun i e he => by
      have := hp (i + 1) e (by simpa using he)
      rw [List.drop_drop, show s + i * s = (i + 1) * s by rw [Nat.add_mul]; omega]
      exact this)
    simp only [flatAll]
    rw [← ih, ← h0, Nat.zero_mul, List.drop_zero, List.take_append_drop]
theorem Flat.array {n e s : Nat} (hT : P.underlying T = some (.array n e)) (hc : P.cellsOf e = s) (hcT : P.cellsOf T = n * s) (h : Flat P e) : Flat P T := by
  intro H enc w base spare held fuel cs x hx
  obtain ⟨xs, m, rfl, rfl, hl, hlen, hf⟩ := DataW.trod_array hT hx
  show cs = flat (.agg (xs.map (·.1)))
  simp only [flat]
  refine flat_parts s n cs _ (hl.trans hcT) (by rw [List.length_map]; exact hlen) (fun i d hd => ?_)
  rw [List.getElem?_map] at hd
  obtain ⟨y, hy, rfl⟩ := Option.map_eq_some_iff.1 hd
  have hi : i < n := by rw [← hlen]; exact (List.getElem?_eq_some_iff.1 hy).1
  have := hf i hi
  rw [hc, hy] at this
  exact h enc w base spare held m _ y this
/-- One listed variable: its cells. -/
theorem laid_cells {name : String} {g t n : Nat} (hg : P.globalNamed name = some g) (ht : (P.globals[g]?).map (·.type) = some t) (hF : Flat P t) {H : Type} {enc : TypeId × Value → H} {w : World} {base : Nat} {spare : Nat → Bool} {held : Bool} {fuel : Nat} {g' t' : Nat} {cs : Array Value} {d : DataW H} {p : List MemPlace}
    (h1 : P.globalNamed name = some g') (h2 : (P.globals[g']?).map (·.type) = some t') (h3 : w.var? P name = some cs) (h4 : DataW.trod enc P w base spare held fuel t' cs.toList = some (d, p)) (L : List Value) (hL : flat d = L) :
    ∀ i, i < n → w.cell? ⟨g, i, none⟩ = L[i]? := by
  obtain rfl := Option.some.inj (hg.symm.trans h1)
  obtain rfl := Option.some.inj (ht.symm.trans h2)
  have e := hF enc w base spare held fuel _ _ h4
  intro i _
  have := World.var?_cell h1 h3 i
  rw [this, ← hL, ← e]
  simp
/-- One listed table: its numbers. -/
theorem laid_tab {name : String} {g t e n : Nat} {k : IntKind} {zs : List Int} (hg : P.globalNamed name = some g) (ht : (P.globals[g]?).map (·.type) = some t) (hu : P.underlying t = some (.array n e)) (he : P.underlying e = some (.int k)) (hce : P.cellsOf e = 1) (hct : P.cellsOf t = n)
    {H : Type} {enc : TypeId × Value → H} {w : World} {base : Nat} {spare : Nat → Bool} {held : Bool} {fuel : Nat} {g' t' : Nat} {cs : Array Value} {d : DataW H} {p : List MemPlace}
    (h1 : P.globalNamed name = some g') (h2 : (P.globals[g']?).map (·.type) = some t') (h3 : w.var? P name = some cs) (h4 : DataW.trod enc P w base spare held fuel t' cs.toList = some (d, p)) (hL : d = Lib.tabData k zs) : Lib.TabIs P w name k zs := by
  obtain rfl := Option.some.inj (hg.symm.trans h1)
  obtain rfl := Option.some.inj (ht.symm.trans h2)
  subst hL
  have e := Lib.cells_of_tab hu he hce hct h4
  unfold Lib.TabIs
  rw [h3, ← e]
end
end Go.Proofs.YtpmhfahligjhaaaDoorXO
