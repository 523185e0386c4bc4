import Derived.Test.YtgkcjefbagnkpaaDoorPureXE
import Derived.Lib.ItoaLen
namespace Go.Proofs.YtgkcjefbagnkpaaDoor.PVal
set_option linter.unusedVariables false
set_option linter.unusedSimpArgs false
open Go Go.RowKit Go.Proofs.YtgkcjefbagnkpaaDoorW.PrintWords Go.Proofs.YtgkcjefbagnkpaaDoorW.PrintMore

/-! ### Texts -/
def rb (c : Int) : Int := (gnomonref08_binds.f 3 c).getD 0
theorem rb_ev {c : Int} (hc : byteOp c) : Ev (fun k => gnomonref08_binds.f k c) (rb c) :=
  Ev.of (gnomonref08_binds.mono _) (op256 (p := fun c => gnomonref08_binds.f 3 c = some (rb c)) (by decide +kernel) hc)
theorem rb_lt {c : Int} (h1 : 1 ≤ c) (h2 : c ≤ 14) (least : Int) (hl : least ≤ 7) : ((kindAt c).2.2.2.2 < least ↔ rb c < least) := by
  have h := op256 (p := fun c => 1 ≤ c → c ≤ 14 → ((kindAt c).2.2.2.2 = rb c ∨ ((kindAt c).2.2.2.2 = 9 ∧ rb c = 7))) (by decide +kernel) (c := c) ⟨by omega, by omega⟩ h1 h2
  rcases h with h | h <;> omega
theorem rb_two {o : Int} (h : isTwo o) : rb o = (kindAt o).2.2.2.2 ∧ 1 ≤ rb o ∧ rb o ≤ 5 := by
  unfold isTwo at h
  rcases h with rfl | rfl | rfl | rfl | rfl | rfl | rfl | rfl | rfl <;> decide +kernel
def sgn (o : Int) : ByteArray := (kindAt o).2.2.2.1
theorem sign_eq {o : Int} (h : isTwo o) : gnomonref08_sign.f o = some (sgn o) ∧ (sgn o).size ≤ 2 := by
  unfold isTwo at h
  rcases h with rfl | rfl | rfl | rfl | rfl | rfl | rfl | rfl | rfl <;> decide +kernel
def lf (o : Int) : Int := if rb o = 3 then 4 else rb o
/-- In brackets or not. -/
def inBr (b : Bool) (t : ByteArray) : ByteArray := if b = true then ((⟨#[40]⟩ : ByteArray) ++ t) ++ (⟨#[41]⟩ : ByteArray) else t
theorem inBr_size (b : Bool) (t : ByteArray) : (inBr b t).size ≤ t.size + 2 := by
  unfold inBr
  split
  · rw [ByteArray.size_append, ByteArray.size_append]
    have h1 : (⟨#[40]⟩ : ByteArray).size = 1 := rfl
    have h2 : (⟨#[41]⟩ : ByteArray).size = 1 := rfl
    omega
  · omega
/-- A tree's text. -/
def tx (names : List ByteArray) : X → ByteArray
  | .leaf o n => if o = 1 then ⟨(Lib.itoa n).toArray⟩ else if o = 2 then rdOf ByteArray.empty names n else ⟨#[116, 114, 117, 101]⟩
  | .one o x => if o = 12 then ((⟨#[33, 40]⟩ : ByteArray) ++ tx names x) ++ (⟨#[41]⟩ : ByteArray) else (⟨#[45]⟩ : ByteArray) ++ inBr (decide (rb x.op < 6)) (tx names x)
  | .two o x y => (((inBr (decide (rb x.op < lf o)) (tx names x) ++ (⟨#[32]⟩ : ByteArray)) ++ sgn o) ++ (⟨#[32]⟩ : ByteArray)) ++ inBr (decide (rb y.op < rb o + 1)) (tx names y)
theorem enc_pos : ∀ x : X, 1 ≤ (enc x).length
  | .leaf _ _ => by simp [enc]
  | .one _ _ => by simp [enc]
  | .two _ _ _ => by simp [enc]
theorem tx_size {names : List ByteArray} (hn : ∀ z ∈ names, z.size ≤ 140737488355328) : ∀ {x : X}, x.ok (names.length : Int) → (tx names x).size + 2 ≤ (enc x).length * 281474976710656
  | .leaf o n, h => by
    simp only [X.ok] at h
    simp only [tx, enc, List.length_cons, List.length_nil]
    split
    · have := Lib.itoa_length_le n (by omega) (by omega)
      have hs : (⟨(Lib.itoa n).toArray⟩ : ByteArray).size = (Lib.itoa n).length := by show (Lib.itoa n).toArray.size = _; simp
      omega
    · split
      · have hm : rdOf ByteArray.empty names n ∈ names := by
          unfold rdOf
          have : n.toNat < names.length := by omega
          simp [List.getD, this]
        have := hn _ hm
        omega
      · have : (⟨#[116, 114, 117, 101]⟩ : ByteArray).size = 4 := rfl
        omega
  | .one o x, h => by
    simp only [X.ok] at h
    have ih := tx_size hn h.2.2
    simp only [tx, enc, List.length_cons]
    split
    · rw [ByteArray.size_append, ByteArray.size_append]
      have h1 : (⟨#[33, 40]⟩ : ByteArray).size = 2 := rfl
      have h2 : (⟨#[41]⟩ : ByteArray).size = 1 := rfl
      omega
    · rw [ByteArray.size_append]
      have h1 : (⟨#[45]⟩ : ByteArray).size = 1 := rfl
      have := inBr_size (decide (rb x.op < 6)) (tx names x)
      omega
  | .two o x y, h => by
    simp only [X.ok] at h
    have ih := tx_size hn h.2.2.2.1
    have ih2 := tx_size hn h.2.2.2.2
    simp only [tx, enc, List.length_cons, List.length_append]
    have h1 : (⟨#[32]⟩ : ByteArray).size = 1 := rfl
    have := inBr_size (decide (rb x.op < lf o)) (tx names x)
    have := inBr_size (decide (rb y.op < rb o + 1)) (tx names y)
    have := (sign_eq h.1).2
    simp only [ByteArray.size_append]
    omega
theorem itoa_ev {n : Int} (h0 : 0 ≤ n) (h1 : n ≤ 1048576) : strconv_Itoa.f n = some ⟨(Lib.itoa n).toArray⟩ := by
  unfold strconv_Itoa.f
  rw [if_pos (by omega)]
theorem X.op_byte {k : Int} {x : X} (h : x.ok k) : byteOp x.op := by
  have := X.op_range h
  unfold byteOp; omega
section
variable {l : List S68} {names : List ByteArray}
theorem N_rd (l : List S68) (a : Nat) : rd_T68 l (a : Int) = N l a := rfl
theorem part_lex {x : X} {a e : Nat} {k : Int} (ho : x.ok k) (h : At l x a e) {t : ByteArray} (ht : Ev (fun k => expr_text.f k l (a : Int) names) t) (hs : t.size ≤ 90000000000000000) {least : Int} (hl : least ≤ 7) :
    Ev (fun k => expr_text.p k l (a : Int) names least) (inBr (decide (rb x.op < least)) t) := by
  have hr := X.op_range ho
  have hlt := h.lt
  have hsz1 : ((⟨#[40]⟩ : ByteArray) ++ t).size = 1 + t.size := by rw [ByteArray.size_append]; rfl
  refine Ev.step (fun m => by (rw [expr_text.p]; try rfl)) (Ev.bind ht ?_)
  refine Ev.congr (fun m => ?_) (Ev.now _)
  rw [if_pos (by omega), if_pos (by omega), N_rd, hlt.2.2.2, of_known hr.1 hr.2, Option.bind_some]
  have hiff := rb_lt hr.1 hr.2 least hl
  unfold inBr
  by_cases hb : rb x.op < least
  · rw [if_pos (hiff.2 hb), if_pos (by omega), if_pos (by rw [hsz1]; omega), if_pos (by simpa using hb)]
  · rw [if_neg (fun hh => hb (hiff.1 hh)), if_neg (by simpa using hb)]
theorem part_ref {x : X} {a e : Nat} {k : Int} (ho : x.ok k) (h : At l x a e) {t : ByteArray} (ht : Ev (fun k => gnomonref08_text.f k l (a : Int) names) t) (hs : t.size ≤ 90000000000000000) {least : Int} :
    Ev (fun k => gnomonref08_text.p k l (a : Int) least names) (inBr (decide (rb x.op < least)) t) := by
  have hr := X.op_range ho
  have hlt := h.lt
  have hsz1 : ((⟨#[40]⟩ : ByteArray) ++ t).size = 1 + t.size := by rw [ByteArray.size_append]; rfl
  refine Ev.step (fun m => by (rw [gnomonref08_text.p]; try rfl)) (Ev.bind ht ?_)
  refine Ev.congr (fun m => by (rw [if_pos (by omega), if_pos (by omega), N_rd, hlt.2.2.2]; try rfl)) (Ev.bind (rb_ev (X.op_byte ho)) ?_)
  refine Ev.congr (fun m => ?_) (Ev.now _)
  unfold inBr
  by_cases hb : rb x.op < least
  · rw [if_pos hb, if_pos (by omega), if_pos (by rw [hsz1]; omega), if_pos (by simpa using hb)]
  · rw [if_neg hb, if_neg (by simpa using hb)]
theorem end_of {k : Int} (G : Good l k) {x : X} {a e : Nat} (ho : x.ok k) (h : At l x a e) : Ev (fun k => expr_End.f k l (a : Int)) (e : Int) ∧ Ev (fun k => gnomonref08_End.f k l (a : Int)) (e : Int) := by
  obtain ⟨e', h1, h2, h3⟩ := G.tree.end_at h.lt.1
  obtain rfl := h1.uniq (h.ends ho)
  exact ⟨h2, h3⟩
theorem size_ok (hn : ∀ z ∈ names, z.size ≤ 140737488355328) {x : X} (ho : x.ok (names.length : Int)) (hl : (enc x).length ≤ 64) : (tx names x).size ≤ 20000000000000000 := by
  have := tx_size hn ho
  have : (enc x).length * 281474976710656 ≤ 64 * 281474976710656 := Nat.mul_le_mul_right _ hl
  omega
theorem text_both (G : Good l (names.length : Int)) (hn : ∀ z ∈ names, z.size ≤ 140737488355328) : ∀ {x : X} {a e : Nat}, x.ok (names.length : Int) → (enc x).length ≤ 64 → At l x a e →
    Ev (fun k => expr_text.f k l (a : Int) names) (tx names x) ∧ Ev (fun k => gnomonref08_text.f k l (a : Int) names) (tx names x)
  | .leaf o n, a, e, ho, hl, h => by
    obtain ⟨ha, hN, rfl⟩ := h
    have hN0 : (N l a).f0 = o := by rw [hN]
    have hN1 : (N l a).f1 = n := by rw [hN]
    simp only [X.ok] at ho
    simp only [tx]
    rcases ho with ⟨rfl, h1, h2⟩ | ⟨rfl, h1, h2⟩ | ⟨rfl, h1⟩
    · refine ⟨Ev.step (fun m => ?_) (Ev.now _), Ev.step (fun m => ?_) (Ev.now _)⟩
      · rw [expr_text.f, if_pos (by omega), if_pos (by omega), N_rd, hN0, hN1, of_known (by decide) (by decide), Option.bind_some, if_pos rfl, itoa_ev h1 h2, Option.bind_some, if_pos rfl]
      · rw [gnomonref08_text.f, if_pos (by omega), if_pos (by omega), N_rd, hN0, hN1, if_pos rfl, itoa_ev h1 h2, Option.bind_some, if_pos rfl]
    · refine ⟨Ev.step (fun m => ?_) (Ev.now _), Ev.step (fun m => ?_) (Ev.now _)⟩
      · rw [expr_text.f, if_pos (by omega), if_pos (by omega), N_rd, hN0, hN1, of_known (by decide) (by decide), Option.bind_some, if_neg (by decide), if_pos rfl, if_pos h1, if_pos h2, if_neg (by decide), if_pos rfl]
      · rw [gnomonref08_text.f, if_pos (by omega), if_pos (by omega), N_rd, hN0, hN1, if_neg (by decide), if_pos rfl, if_pos h1, if_pos h2, if_neg (by decide), if_pos rfl]
    · refine ⟨Ev.step (fun m => ?_) (Ev.now _), Ev.step (fun m => ?_) (Ev.now _)⟩
      · rw [expr_text.f, if_pos (by omega), if_pos (by omega), N_rd, hN0, hN1, of_known (by decide) (by decide), Option.bind_some, if_neg (by decide), if_neg (by decide), if_pos rfl, if_neg (by decide), if_neg (by decide)]
        rfl
      · rw [gnomonref08_text.f, if_pos (by omega), if_pos (by omega), N_rd, hN0, hN1, if_neg (by decide), if_neg (by decide), if_pos rfl, if_neg (by decide), if_neg (by decide)]
  | .one o x, a, e, ho, hl, h => by
    obtain ⟨ha, hN, hx⟩ := h
    have hN0 : (N l a).f0 = o := by rw [hN]
    simp only [X.ok] at ho
    have hlx : (enc x).length ≤ 64 := by simp only [enc, List.length_cons] at hl; omega
    obtain ⟨ih1, ih2⟩ := text_both G hn ho.2.2 hlx hx
    have hs := size_ok hn ho.2.2 hlx
    have hlen := G.len
    simp only [tx]
    rcases ho.1 with rfl | rfl
    · rw [if_neg (by decide)]
      have p1 := part_lex ho.2.2 hx ih1 (by omega) (least := 6) (by omega)
      have p2 := part_ref ho.2.2 hx ih2 (by omega) (least := 6)
      have hbs := inBr_size (decide (rb x.op < 6)) (tx names x)
      constructor
      · refine Ev.step (fun m => by (rw [expr_text.f, if_pos (by omega), if_pos (by omega), N_rd, hN0, of_known (by decide) (by decide), Option.bind_some, if_neg (by decide), if_neg (by decide), if_neg (by decide), if_neg (by decide), if_pos rfl, w68 (by omega)]; try rfl)) (Ev.bind p1 ?_)
        exact Ev.congr (fun m => by rw [if_pos (by omega)]) (Ev.now _)
      · refine Ev.step (fun m => by (rw [gnomonref08_text.f, if_pos (by omega), if_pos (by omega), N_rd, hN0, if_neg (by decide), if_neg (by decide), if_neg (by decide), if_pos rfl]; try rfl)) (Ev.bind (rb_ev (c := 3) (by unfold byteOp; omega)) ?_)
        refine Ev.congr (fun m => by (rw [w68 (by omega), show rb 3 = 6 from by decide +kernel]; try rfl)) (Ev.bind p2 ?_)
        exact Ev.congr (fun m => by rw [if_pos (by omega)]) (Ev.now _)
    · rw [if_pos rfl]
      have z1 : ((⟨#[33, 40]⟩ : ByteArray) ++ tx names x).size = 2 + (tx names x).size := by rw [ByteArray.size_append]; rfl
      constructor
      · refine Ev.step (fun m => by (rw [expr_text.f, if_pos (by omega), if_pos (by omega), N_rd, hN0, of_known (by decide) (by decide), Option.bind_some, if_neg (by decide), if_neg (by decide), if_neg (by decide), if_pos rfl, w68 (by omega)]; try rfl)) (Ev.bind ih1 ?_)
        exact Ev.congr (fun m => by rw [if_pos (by omega), if_pos (by rw [z1]; omega)]) (Ev.now _)
      · refine Ev.step (fun m => by (rw [gnomonref08_text.f, if_pos (by omega), if_pos (by omega), N_rd, hN0, if_neg (by decide), if_neg (by decide), if_neg (by decide), if_neg (by decide), if_pos rfl, w68 (by omega)]; try rfl)) (Ev.bind ih2 ?_)
        exact Ev.congr (fun m => by rw [if_pos (by omega), if_pos (by rw [z1]; omega)]) (Ev.now _)
  | .two o x y, a, e, ho, hl, h => by
    obtain ⟨ha, hN, b, hx, hy⟩ := h
    have hN0 : (N l a).f0 = o := by rw [hN]
    simp only [X.ok] at ho
    have hl' := hl
    simp only [enc, List.length_cons, List.length_append] at hl'
    obtain ⟨ihx1, ihx2⟩ := text_both G hn ho.2.2.2.1 (by omega) hx
    obtain ⟨ihy1, ihy2⟩ := text_both G hn ho.2.2.2.2 (by omega) hy
    have hsx := size_ok hn ho.2.2.2.1 (by omega)
    have hsy := size_ok hn ho.2.2.2.2 (by omega)
    have hlen := G.len
    have hi := ho.1
    have hro : 1 ≤ o ∧ o ≤ 14 := by unfold isTwo at hi; omega
    have hb := rb_two hi
    obtain ⟨hsg, hss⟩ := sign_eq hi
    obtain ⟨E1, E2⟩ := end_of G ho.2.2.2.1 hx
    have hlf : lf o ≤ 7 := by unfold lf; split <;> omega
    have px1 := part_lex ho.2.2.2.1 hx ihx1 (by omega) hlf
    have px2 := part_ref ho.2.2.2.1 hx ihx2 (by omega) (least := lf o)
    have py1 := part_lex ho.2.2.2.2 hy ihy1 (by omega) (least := rb o + 1) (by omega)
    have py2 := part_ref ho.2.2.2.2 hy ihy2 (by omega) (least := rb o + 1)
    have hbx := inBr_size (decide (rb x.op < lf o)) (tx names x)
    have hby := inBr_size (decide (rb y.op < rb o + 1)) (tx names y)
    simp only [tx]
    generalize inBr (decide (rb x.op < lf o)) (tx names x) = A at *
    generalize inBr (decide (rb y.op < rb o + 1)) (tx names y) = B at *
    have z1 : (A ++ (⟨#[32]⟩ : ByteArray)).size = A.size + 1 := by rw [ByteArray.size_append]; rfl
    have z2 : ((A ++ (⟨#[32]⟩ : ByteArray)) ++ sgn o).size = A.size + 1 + (sgn o).size := by rw [ByteArray.size_append, z1]
    have z3 : (((A ++ (⟨#[32]⟩ : ByteArray)) ++ sgn o) ++ (⟨#[32]⟩ : ByteArray)).size = A.size + 1 + (sgn o).size + 1 := by rw [ByteArray.size_append, z2]; rfl
    have hw1 : wrap64 (rb o + 1) = rb o + 1 := ws (by omega) (by omega)
    constructor
    · have hk : (kindAt o).2.2.2.1 = sgn o := rfl
      have hk2 : (kindAt o).2.2.2.2 = rb o := hb.1.symm
      have st : ∀ m, expr_text.f (m + 1) l (a : Int) names = (expr_text.p m l ((a + 1 : Nat) : Int) names (lf o)).bind fun t => (if t.size + 1 ≤ 9223372036854775807 then (if (t ++ (⟨#[32]⟩ : ByteArray)).size + (sgn o).size ≤ 9223372036854775807 then (if ((t ++ (⟨#[32]⟩ : ByteArray)) ++ sgn o).size + 1 ≤ 9223372036854775807 then ((expr_End.f m l ((a + 1 : Nat) : Int)).bind fun u => ((expr_text.p m l u names (rb o + 1)).bind fun v => (if (((t ++ (⟨#[32]⟩ : ByteArray)) ++ sgn o) ++ (⟨#[32]⟩ : ByteArray)).size + v.size ≤ 9223372036854775807 then (some ((((t ++ (⟨#[32]⟩ : ByteArray)) ++ sgn o) ++ (⟨#[32]⟩ : ByteArray)) ++ v)) else (none)))) else (none)) else (none)) else (none)) := by
        intro m
        have c1 : o ≠ 1 := by unfold isTwo at hi; omega
        have c2 : o ≠ 2 := by unfold isTwo at hi; omega
        have c7 : o ≠ 7 := by unfold isTwo at hi; omega
        have c12 : o ≠ 12 := by unfold isTwo at hi; omega
        have c3 : o ≠ 3 := by unfold isTwo at hi; omega
        rw [expr_text.f, if_pos (by omega), if_pos (by omega), N_rd, hN0, of_known hro.1 hro.2, Option.bind_some, if_neg c1, if_neg c2, if_neg c7, if_neg c12, if_neg c3, hk, hk2, hw1, w68 (by omega)]
        unfold lf
        by_cases h3 : rb o = 3
        · rw [if_pos h3, if_pos h3, h3]; rfl
        · rw [if_neg h3, if_neg h3]
      refine Ev.step st (Ev.bind px1 ?_)
      refine Ev.congr (fun m => by (rw [if_pos (by omega), if_pos (by rw [z1]; omega), if_pos (by rw [z2]; omega)]; try rfl)) (Ev.bind E1 ?_)
      refine Ev.bind py1 ?_
      exact Ev.congr (fun m => by rw [if_pos (by rw [z3]; omega)]) (Ev.now _)
    · have st : ∀ r, Ev (fun m => gnomonref08_text.j0 m l (a : Int) names o (lf o)) r → Ev (fun m => gnomonref08_text.f m l (a : Int) names) r := by
        intro r hr
        have c1 : o ≠ 1 := by unfold isTwo at hi; omega
        have c2 : o ≠ 2 := by unfold isTwo at hi; omega
        have c7 : o ≠ 7 := by unfold isTwo at hi; omega
        have c12 : o ≠ 12 := by unfold isTwo at hi; omega
        have c3 : o ≠ 3 := by unfold isTwo at hi; omega
        refine Ev.step (fun m => by (rw [gnomonref08_text.f, if_pos (by omega), if_pos (by omega), N_rd, hN0, if_neg c1, if_neg c2, if_neg c7, if_neg c3, if_neg c12]; try rfl)) (Ev.bind (rb_ev (c := o) (by unfold byteOp; omega)) ?_)
        refine Ev.congr (fun m => ?_) hr
        rw [hw1]
        unfold lf
        by_cases h3 : rb o = 3
        · rw [if_pos h3, if_pos h3, h3]; rfl
        · rw [if_neg h3, if_neg h3]
      refine st _ (Ev.step (fun m => by (rw [gnomonref08_text.j0, w68 (by omega)]; try rfl)) (Ev.bind px2 ?_))
      refine Ev.congr (fun m => by (rw [if_pos (by omega), hsg, Option.bind_some, if_pos (by rw [z1]; omega), if_pos (by rw [z2]; omega)]; try rfl)) (Ev.bind E2 ?_)
      refine Ev.bind (rb_ev (c := o) (by unfold byteOp; omega)) ?_
      refine Ev.congr (fun m => by (rw [hw1]; try rfl)) (Ev.bind py2 ?_)
      exact Ev.congr (fun m => by rw [if_pos (by rw [z3]; omega)]) (Ev.now _)
end
end Go.Proofs.YtgkcjefbagnkpaaDoor.PVal
