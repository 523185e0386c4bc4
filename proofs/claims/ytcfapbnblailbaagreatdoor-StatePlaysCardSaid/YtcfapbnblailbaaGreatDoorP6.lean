/-
  How many states there could be: both answer the same.
-/
import Derived.Test.YtcfapbnblailbaaGreatDoorP5
import Derived.Laws.MathBits
set_option linter.unusedVariables false
set_option linter.unusedSimpArgs false
set_option maxRecDepth 100000
namespace Go.Proofs.YtcfapbnblailbaaGreatDoor.Q
open Go Go.Den Go.RowKit Go.Proofs
noncomputable section
theorem uw {n : Int} (h : 0 ≤ n) (h2 : n < 18446744073709551616) : wk .u64 n = n := by
  show IntKind.u64.wrap n = n
  simp [IntKind.wrap, IntKind.signed, IntKind.bits]; omega
theorem low32 {n : Int} (h : 0 ≤ n) (h2 : n < 18446744073709551616) : Wr.and .u64 n 4294967295 = n % 4294967296 := by
  show IntKind.u64.wrap _ = _
  exact and_low32 n h h2
theorem mul_bound {a b : Int} (h0 : 0 ≤ a) (h1 : a ≤ 4294967295) (h2 : 0 ≤ b) (h3 : b ≤ 4294967295) : 0 ≤ a * b ∧ a * b ≤ 18446744065119617025 :=
  ⟨Int.mul_nonneg h0 h2, by have := Int.mul_le_mul h1 h3 h2 (by decide); simpa using this⟩
theorem mul64_eq {x y : Int} (hx : 0 ≤ x ∧ x < 18446744073709551616) (hy : 0 ≤ y ∧ y < 18446744073709551616) : math_bits_Mul64.f x y = some (x * y / 18446744073709551616, x * y % 18446744073709551616) := by
  obtain ⟨a, b, ha, hb, rfl⟩ : ∃ a b : Int, (0 ≤ a ∧ a ≤ 4294967295) ∧ (0 ≤ b ∧ b ≤ 4294967295) ∧ x = a * 4294967296 + b := ⟨x / 4294967296, x % 4294967296, by omega, by omega, by omega⟩
  obtain ⟨c, d, hc, hd, rfl⟩ : ∃ c d : Int, (0 ≤ c ∧ c ≤ 4294967295) ∧ (0 ≤ d ∧ d ≤ 4294967295) ∧ y = c * 4294967296 + d := ⟨y / 4294967296, y % 4294967296, by omega, by omega, by omega⟩
  have e1 : (a * 4294967296 + b) / 4294967296 = a := by omega
  have e2 : (c * 4294967296 + d) / 4294967296 = c := by omega
  have e3 : (a * 4294967296 + b) % 4294967296 = b := by omega
  have e4 : (c * 4294967296 + d) % 4294967296 = d := by omega
  have hp : (a * 4294967296 + b) * (c * 4294967296 + d) = (a * c) * 18446744073709551616 + (a * d + b * c) * 4294967296 + b * d := by
    rw [Int.add_mul, Int.mul_add, Int.mul_add]
    have h1 : a * 4294967296 * (c * 4294967296) = (a * c) * 18446744073709551616 := by
      rw [Int.mul_assoc, Int.mul_left_comm 4294967296 c, ← Int.mul_assoc]; rfl
    have h2 : a * 4294967296 * d = (a * d) * 4294967296 := by rw [Int.mul_assoc, Int.mul_comm 4294967296 d, ← Int.mul_assoc]
    have h3 : b * (c * 4294967296) = (b * c) * 4294967296 := by rw [← Int.mul_assoc]
    rw [h1, h2, h3]
    omega
  have w : wk .u64 ((a * 4294967296 + b) * (c * 4294967296 + d)) = (a * 4294967296 + b) * (c * 4294967296 + d) % 18446744073709551616 := by
    show IntKind.u64.wrap _ = _
    simp [IntKind.wrap, IntKind.signed, IntKind.bits]
  have p1 := mul_bound ha.1 ha.2 hc.1 hc.2
  have p2 := mul_bound ha.1 ha.2 hd.1 hd.2
  have p3 := mul_bound hb.1 hb.2 hc.1 hc.2
  have p4 := mul_bound hb.1 hb.2 hd.1 hd.2
  unfold math_bits_Mul64.f
  rw [w, e1, e2, low32 (by omega) (by omega), low32 (by omega) (by omega), e3, e4, hp]
  generalize a * c = A at *
  generalize a * d = B at *
  generalize b * c = C at *
  generalize b * d = D at *
  rw [uw (n := A) (by omega) (by omega), uw (n := B) (by omega) (by omega), uw (n := C) (by omega) (by omega), uw (n := D) (by omega) (by omega), uw (n := B + D / 4294967296) (by omega) (by omega), low32 (by omega) (by omega),
    uw (n := A + (B + D / 4294967296) / 4294967296) (by omega) (by omega), uw (n := (B + D / 4294967296) % 4294967296 + C) (by omega) (by omega), uw (by omega) (by omega)]
  congr 2
  omega
/-- A product, or the greatest number. -/
def sat (c n : Int) : Int := if c * n > 9223372036854775807 then 9223372036854775807 else c * n
theorem sat_range {c n : Int} (hc : 1 ≤ c) (hn : 1 ≤ n) : 1 ≤ sat c n ∧ sat c n ≤ 9223372036854775807 := by
  have h := Int.mul_le_mul hc hn (by decide) (by omega)
  unfold sat
  split <;> omega
theorem times_eq {c n : Int} (hc : 1 ≤ c ∧ c ≤ 9223372036854775807) (hn : 1 ≤ n ∧ n ≤ 4294967295) : state_times.f c n = some (sat c n) := by
  have h1 : 1 ≤ c * n := by have := Int.mul_le_mul hc.1 hn.1 (by decide) (by omega); omega
  have h2 : c * n ≤ 9223372036854775807 * 4294967295 := Int.mul_le_mul hc.2 hn.2 (by omega) (by decide)
  rw [state_times.f, uw (by omega) (by omega), uw (by omega) (by omega), mul64_eq (by omega) (by omega), Option.bind_some, sat]
  generalize c * n = P at *
  dsimp only
  by_cases g : P / 18446744073709551616 = 0
  · rw [if_pos g]
    have e : P % 18446744073709551616 = P := by omega
    rw [e]
    by_cases g2 : P > 9223372036854775807
    · rw [if_pos g2, if_pos g2]
    · rw [if_neg g2, if_neg g2, ws0 (by omega) (by omega)]
  · rw [if_neg g, if_pos (by omega)]
/-- All factors, one behind the other. -/
def fac (b : List S104) (d : List S94) : List Int := d.map (fun x => (x.f1.length : Int)) ++ b.map fun v => v.f2 - v.f1 + 1
def prodS : Int → List Int → Int
  | c, [] => c
  | c, n :: t => prodS (sat c n) t
theorem count1 : ∀ (b : List S104) (c : Int), (∀ v ∈ b, v.f1 ≤ v.f3 ∧ v.f3 ≤ v.f2 ∧ -1048576 ≤ v.f1 ∧ v.f2 ≤ 1048576) → 1 ≤ c ∧ c ≤ 9223372036854775807 → state_Count.L1 b c = some (prodS c (b.map fun v => v.f2 - v.f1 + 1))
  | [], c, _, _ => rfl
  | v :: t, c, h, hc => by
    have h1 := hd_of h
    have e : w64 (w64 (v.f2 - v.f1) + 1) = v.f2 - v.f1 + 1 := by rw [ws0 (n := v.f2 - v.f1) (by omega) (by omega), ws0 (by omega) (by omega)]
    rw [state_Count.L1, e, times_eq hc (by omega), Option.bind_some, count1 t _ (tl_of h) (sat_range hc.1 (by omega)), List.map_cons, prodS]
theorem count0 (b : List S104) (hb : b.length ≤ 16) (hv : ∀ v ∈ b, v.f1 ≤ v.f3 ∧ v.f3 ≤ v.f2 ∧ -1048576 ≤ v.f1 ∧ v.f2 ≤ 1048576) : ∀ (d : List S94) (c : Int), (∀ x ∈ d, 0 < x.f1.length ∧ x.f1.length ≤ 64) → 1 ≤ c ∧ c ≤ 9223372036854775807 → state_Count.L0 b d c = some (prodS c (fac b d))
  | [], c, _, hc => by rw [state_Count.L0, if_pos (by omega), count1 b c hv hc]; rfl
  | x :: t, c, h, hc => by
    have h1 := hd_of h
    rw [state_Count.L0, times_eq hc (by omega), Option.bind_some, count0 b hb hv t _ (tl_of h) (sat_range hc.1 (by omega))]; rfl
def sCount (a : List ByteArray) (b : List S104) (c : List ByteArray) (d : List S94) : Int := if sWhole a b c d = 0 then prodS 1 (fac b d) else 0
theorem count_eq {a b c d} (h : OkN a b c d) : state_Count.g a b c d = some (sCount a b c d) := by
  rw [state_Count.g, right_g h, Option.bind_some, sCount]
  by_cases hw : sWhole a b c d = 0
  · have hW := wh_of h hw
    have h1 := hW.few.dl
    rw [decide_eq_true hw, if_neg (by decide), if_pos hw, if_pos (by omega), count0 b hW.few.bl hW.vars d 1 (fun x hx => ⟨hW.locs x hx, (hW.few.ds x hx).1⟩) (by decide)]
  · rw [decide_eq_false hw, if_pos (show (!false) = true from rfl), if_neg hw]
/-! The document's -/
theorem prodS_max : ∀ (l : List Int), (∀ n ∈ l, 1 ≤ n) → prodS 9223372036854775807 l = 9223372036854775807
  | [], _ => rfl
  | n :: t, h => by
    have h1 := hd_of h
    have e : sat 9223372036854775807 n = 9223372036854775807 := by unfold sat; split <;> omega
    rw [prodS, e, prodS_max t (tl_of h)]
theorem div_iff {c k : Int} (hk : 1 ≤ k) : c > Int.tdiv 9223372036854775807 k ↔ c * k > 9223372036854775807 := by
  rw [Int.tdiv_eq_ediv_of_nonneg (by decide)]
  constructor
  · intro h
    have h1 : 9223372036854775807 < (9223372036854775807 / k + 1) * k := Int.lt_ediv_add_one_mul_self _ (by omega)
    have h2 : (9223372036854775807 / k + 1) * k ≤ c * k := Int.mul_le_mul_of_nonneg_right (by omega) (by omega)
    omega
  · intro h
    have h1 : 9223372036854775807 / k * k ≤ 9223372036854775807 := Int.ediv_mul_le _ (by omega)
    by_cases h2 : 9223372036854775807 / k < c
    · exact h2
    · have h3 : c * k ≤ 9223372036854775807 / k * k := Int.mul_le_mul_of_nonneg_right (by omega) (by omega)
      omega
theorem rcount0 {a b c d} (hW : Wh a b c d) : ∀ (m i : Nat) (z : Int) (l : List Int), (fac b d).length - i ≤ m → (fac b d).drop i = l → i ≤ (fac b d).length → 1 ≤ z ∧ z ≤ 9223372036854775807 → Ev (fun k => gnomonref13_Count.l0 k 9223372036854775807 z (i : Int) a b c d) (prodS z l)
  | m, i, z, l, hm, hl, hi, hz => by
    have hd8 := hW.few.dl
    have hb8 := hW.few.bl
    have hlen : (fac b d).length = d.length + b.length := by simp [fac]
    have e0 : w64 ((d.length : Int) + (b.length : Int)) = ((d.length + b.length : Nat) : Int) := by rw [ws0 (by omega) (by omega)]; rfl
    match l, hl with
    | [], hl =>
      have := drop_nil hl
      exact Ev.step (g := fun _ => some z) (fun k => by rw [gnomonref13_Count.l0, e0, if_neg (by omega)]) (Ev.now _)
    | n :: t, hl =>
      obtain ⟨g1, g2, g3⟩ := drop_cons hl
      have hn : 1 ≤ n ∧ n ≤ 4294967295 := by
        have := List.mem_of_getElem? g2
        simp only [fac, List.mem_append, List.mem_map] at this
        rcases this with ⟨x, hx, rfl⟩ | ⟨v, hv, rfl⟩
        · have h1 := hW.locs x hx; have h2 := (hW.few.ds x hx).1; omega
        · have h1 := hW.vars v hv; omega
      have hall : ∀ n ∈ t, 1 ≤ n := fun n hn => by
        have : n ∈ fac b d := by rw [← g3] at hn; exact List.mem_of_mem_drop hn
        simp only [fac, List.mem_append, List.mem_map] at this
        rcases this with ⟨x, hx, rfl⟩ | ⟨v, hv, rfl⟩
        · have h1 := hW.locs x hx; omega
        · have h1 := hW.vars v hv; omega
      have st : ∀ k, gnomonref13_Count.l0 (k + 1) 9223372036854775807 z (i : Int) a b c d = if z > w64 (Int.tdiv 9223372036854775807 n) then some 9223372036854775807 else gnomonref13_Count.l0 k 9223372036854775807 (w64 (z * n)) ((i + 1 : Nat) : Int) a b c d := by
        intro k
        have hw : w64 ((i : Int) + 1) = ((i + 1 : Nat) : Int) := by rw [ws0 (by omega) (by omega)]; rfl
        by_cases hd : i < d.length
        · have hg : d[i]? = some d[i] := List.getElem?_eq_getElem hd
          have en : n = ((d[i] : S94).f1.length : Int) := by
            rw [fac, List.getElem?_append_left (by simpa using hd), List.getElem?_map, hg] at g2
            exact (Option.some.inj g2).symm
          have er : rd_T94 d (i : Int) = d[i] := rdT_head (t := T94) (List.drop_eq_getElem_cons hd)
          have hi1 : (i : Int) < (d.length : Int) := by omega
          rw [gnomonref13_Count.l0, e0, if_pos (by omega), if_pos hi1, if_pos (by omega), if_pos hi1, er, ← en, if_pos (by omega), hw]
        · obtain ⟨j, rfl⟩ : ∃ j, i = d.length + j := ⟨i - d.length, by omega⟩
          have hj : j < b.length := by omega
          have hg : b[j]? = some b[j] := List.getElem?_eq_getElem hj
          have en : n = (b[j] : S104).f2 - (b[j] : S104).f1 + 1 := by
            rw [fac, List.getElem?_append_right (by simp), List.getElem?_map, List.length_map, Nat.add_sub_cancel_left, hg] at g2
            exact (Option.some.inj g2).symm
          have hv := hW.vars _ (List.getElem_mem hj)
          have ej : w64 (((d.length + j : Nat) : Int) - (d.length : Int)) = (j : Int) := by rw [ws0 (by omega) (by omega)]; omega
          have er : rd_T104 b (j : Int) = b[j] := rdT_head (t := T104) (List.drop_eq_getElem_cons hj)
          have ev : w64 (w64 ((b[j] : S104).f2 - (b[j] : S104).f1) + 1) = n := by rw [ws0 (n := (b[j] : S104).f2 - (b[j] : S104).f1) (by omega) (by omega), ws0 (by omega) (by omega), en]
          rw [gnomonref13_Count.l0, e0, if_pos (by omega), if_neg (by omega), ej, if_pos (by omega), if_pos (by omega), er, ev, if_pos (by omega), hw]
      match m, hm with
      | 0, hm => omega
      | m + 1, hm =>
      have hdv : w64 (Int.tdiv 9223372036854775807 n) = Int.tdiv 9223372036854775807 n := by
        rw [Int.tdiv_eq_ediv_of_nonneg (by decide)]
        have h1 : 0 ≤ (9223372036854775807 : Int) / n := Int.ediv_nonneg (by decide) (by omega)
        have h2 : (9223372036854775807 : Int) / n ≤ 9223372036854775807 := Int.ediv_le_self _ (by decide)
        exact ws0 (by omega) h2
      rw [prodS]
      by_cases hgt : z > Int.tdiv 9223372036854775807 n
      · have e : sat z n = 9223372036854775807 := by unfold sat; rw [if_pos ((div_iff hn.1).1 hgt)]
        rw [e, prodS_max t hall]
        exact Ev.step (g := fun _ => some 9223372036854775807) (fun k => by rw [st, hdv, if_pos hgt]) (Ev.now _)
      · have hle : ¬ z * n > 9223372036854775807 := fun h => hgt ((div_iff hn.1).2 h)
        have e : sat z n = z * n := by unfold sat; rw [if_neg hle]
        have hr := sat_range hz.1 hn.1
        rw [e] at hr ⊢
        have ew : w64 (z * n) = z * n := ws0 (Int.le_trans (by decide) hr.1) hr.2
        have h1 : (fac b d).length - (i + 1) ≤ m := by clear hdv hgt hle; omega
        have h2 : i + 1 ≤ (fac b d).length := g1
        exact Ev.step (fun k => by rw [st, hdv, if_neg hgt, ew]) (rcount0 hW m (i + 1) (z * n) t h1 g3 h2 hr)
theorem rcount_ev {a b c d} (h : OkN a b c d) : Ev (fun k => gnomonref13_Count.f k a b c d) (sCount a b c d) := by
  refine Ev.congr (fun k => by rw [gnomonref13_Count.f]) (Ev.bind (Ev.of_le (gnomonref10_Right.le a b c d) (rright_g h)) ?_)
  unfold sCount
  by_cases hw : sWhole a b c d = 0
  · rw [decide_eq_true hw, if_pos hw]
    exact Ev.neg (by decide) (rcount0 (wh_of h hw) _ 0 1 _ (Nat.le_refl _) rfl (Nat.zero_le _) (by decide))
  · rw [decide_eq_false hw, if_neg hw]
    exact Ev.pos rfl (Ev.now _)
end
end Go.Proofs.YtcfapbnblailbaaGreatDoor.Q
