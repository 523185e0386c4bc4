/-
  States of a network: which are, what is wrong with them, their bytes, and the order of these.
-/
import Derived.Test.YtpmhfahligjhaaaDoorPureNS
namespace Go.Proofs.YtpmhfahligjhaaaDoor.POrd
set_option linter.unusedVariables false
set_option linter.unusedSimpArgs false
open Go Go.RowKit Go.Proofs.YtpmhfahligjhaaaDoorW.PrintWords Go.Proofs.YtpmhfahligjhaaaDoorW.PrintMore
def isA : List S61 → List Int → Bool
  | [], [] => true
  | x :: t, y :: u => (decide (y ≥ 0) && decide (y < (x.f1.length : Int))) && isA t u
  | [], _ :: _ => false
  | _ :: _, [] => false
def isV : List S50 → List Int → Bool
  | [], [] => true
  | v :: t, y :: u => (decide (y ≥ v.f1) && decide (y ≤ v.f2)) && isV t u
  | [], _ :: _ => false
  | _ :: _, [] => false
theorem isA_len : ∀ {d : List S61} {l : List Int}, isA d l = true → d.length = l.length
  | [], [], _ => rfl
  | x :: t, y :: u, h => by
    simp only [isA, Bool.and_eq_true] at h
    simp [isA_len h.2]
  | [], _ :: _, h => by simp [isA] at h
  | _ :: _, [], h => by simp [isA] at h
theorem isV_len : ∀ {d : List S50} {l : List Int}, isV d l = true → d.length = l.length
  | [], [], _ => rfl
  | x :: t, y :: u, h => by
    simp only [isV, Bool.and_eq_true] at h
    simp [isV_len h.2]
  | [], _ :: _, h => by simp [isV] at h
  | _ :: _, [], h => by simp [isV] at h
theorem isA_ev {d : List S61} {l : List Int} (hd : d.length ≤ cap) : Ev (fun k => api_Auto_int_at34.f k d l) (isA d l) := by
  by_cases hl : d.length = l.length
  · refine Ev.congr (fun k => by rw [api_Auto_int_at34.f, if_pos (by omega)]) ?_
    have key : ∀ n i : Nat, d.length - i ≤ n → i ≤ d.length → Ev (fun k => api_Auto_int_at34.l0 k l d (d.length : Int) (i : Int)) (isA (d.drop i) (l.drop i)) := by
      intro n
      induction n with
      | zero =>
        intro i h1 h2
        obtain rfl : i = d.length := by omega
        rw [List.drop_eq_nil_of_le (Nat.le_refl d.length), List.drop_eq_nil_of_le (show l.length ≤ d.length by omega)]
        exact Ev.step (fun k => by rw [api_Auto_int_at34.l0, if_neg (by omega)]) (Ev.now true)
      | succ n ih =>
        intro i h1 h2
        rcases Nat.lt_or_ge i d.length with h | h
        · have hdr := List.drop_eq_getElem_cons h
          have hlr := List.drop_eq_getElem_cons (show i < l.length by omega)
          have hin := inside hdr hd
          have st : ∀ {r}, Ev (fun k => (state_is_1.f d[i].f0 d[i].f1 d[i].f2 (l[i]'(by omega))).bind fun t => if t = true then api_Auto_int_at34.l0 k l d (d.length : Int) ((i + 1 : Nat) : Int) else some false) r → Ev (fun k => api_Auto_int_at34.l0 k l d (d.length : Int) (i : Int)) r :=
            fun hr => Ev.step (fun k => by rw [api_Auto_int_at34.l0, if_pos hin.1, if_pos hin.2.1, if_pos hin.1, if_pos (show (i : Int) < (l.length : Int) by omega), show rd_T61 d (i : Int) = d[i] from getD_at hdr _, rd_at hlr, hin.2.2]) hr
          rw [hdr, hlr]
          apply st
          unfold state_is_1.f isA
          by_cases c1 : (l[i]'(by omega)) ≥ 0
          · by_cases c2 : (l[i]'(by omega)) < (d[i].f1.length : Int)
            · rw [if_pos c1, decide_eq_true c1, decide_eq_true c2]
              exact Ev.congr (fun k => by rw [Option.bind_some, if_pos rfl]) (by simpa using ih (i + 1) (by omega) (by omega))
            · rw [if_pos c1, decide_eq_true c1, decide_eq_false c2]
              exact Ev.congr (fun k => by rw [Option.bind_some, if_neg (by decide)]) (by simpa using Ev.now false)
          · rw [if_neg c1, decide_eq_false c1]
            exact Ev.congr (fun k => by rw [Option.bind_some, if_neg (by decide)]) (by simpa using Ev.now false)
        · obtain rfl : i = d.length := by omega
          rw [List.drop_eq_nil_of_le (Nat.le_refl d.length), List.drop_eq_nil_of_le (show l.length ≤ d.length by omega)]
          exact Ev.step (fun k => by rw [api_Auto_int_at34.l0, if_neg (by omega)]) (Ev.now true)
    have := key d.length 0 (by omega) (Nat.zero_le _)
    simpa using this
  · have hf : isA d l = false := by
      cases hc : isA d l with
      | false => rfl
      | true => exact absurd (isA_len hc) hl
    rw [hf]
    exact Ev.congr (fun k => by rw [api_Auto_int_at34.f, if_neg (by omega)]) (Ev.now _)
theorem isV_ev {d : List S50} {l : List Int} (hd : d.length ≤ cap) : Ev (fun k => api_Variable_int_at35.f k d l) (isV d l) := by
  by_cases hl : d.length = l.length
  · refine Ev.congr (fun k => by rw [api_Variable_int_at35.f, if_pos (by omega)]) ?_
    have key : ∀ n i : Nat, d.length - i ≤ n → i ≤ d.length → Ev (fun k => api_Variable_int_at35.l0 k l d (d.length : Int) (i : Int)) (isV (d.drop i) (l.drop i)) := by
      intro n
      induction n with
      | zero =>
        intro i h1 h2
        obtain rfl : i = d.length := by omega
        rw [List.drop_eq_nil_of_le (Nat.le_refl d.length), List.drop_eq_nil_of_le (show l.length ≤ d.length by omega)]
        exact Ev.step (fun k => by rw [api_Variable_int_at35.l0, if_neg (by omega)]) (Ev.now true)
      | succ n ih =>
        intro i h1 h2
        rcases Nat.lt_or_ge i d.length with h | h
        · have hdr := List.drop_eq_getElem_cons h
          have hlr := List.drop_eq_getElem_cons (show i < l.length by omega)
          have hin := inside hdr hd
          have st : ∀ {r}, Ev (fun k => (state_is_2.f d[i].f0 d[i].f1 d[i].f2 d[i].f3 (l[i]'(by omega))).bind fun t => if t = true then api_Variable_int_at35.l0 k l d (d.length : Int) ((i + 1 : Nat) : Int) else some false) r → Ev (fun k => api_Variable_int_at35.l0 k l d (d.length : Int) (i : Int)) r :=
            fun hr => Ev.step (fun k => by rw [api_Variable_int_at35.l0, if_pos hin.1, if_pos hin.2.1, if_pos hin.1, if_pos (show (i : Int) < (l.length : Int) by omega), show rd_T50 d (i : Int) = d[i] from getD_at hdr _, rd_at hlr, hin.2.2]) hr
          rw [hdr, hlr]
          apply st
          unfold state_is_2.f isV
          by_cases c1 : (l[i]'(by omega)) ≥ d[i].f1
          · by_cases c2 : (l[i]'(by omega)) ≤ d[i].f2
            · rw [if_pos c1, decide_eq_true c1, decide_eq_true c2]
              exact Ev.congr (fun k => by rw [Option.bind_some, if_pos rfl]) (by simpa using ih (i + 1) (by omega) (by omega))
            · rw [if_pos c1, decide_eq_true c1, decide_eq_false c2]
              exact Ev.congr (fun k => by rw [Option.bind_some, if_neg (by decide)]) (by simpa using Ev.now false)
          · rw [if_neg c1, decide_eq_false c1]
            exact Ev.congr (fun k => by rw [Option.bind_some, if_neg (by decide)]) (by simpa using Ev.now false)
        · obtain rfl : i = d.length := by omega
          rw [List.drop_eq_nil_of_le (Nat.le_refl d.length), List.drop_eq_nil_of_le (show l.length ≤ d.length by omega)]
          exact Ev.step (fun k => by rw [api_Variable_int_at35.l0, if_neg (by omega)]) (Ev.now true)
    have := key d.length 0 (by omega) (Nat.zero_le _)
    simpa using this
  · have hf : isV d l = false := by
      cases hc : isV d l with
      | false => rfl
      | true => exact absurd (isV_len hc) hl
    rw [hf]
    exact Ev.congr (fun k => by rw [api_Variable_int_at35.f, if_neg (by omega)]) (Ev.now _)
noncomputable def sWrong (a : List ByteArray) (b : List S50) (c : List ByteArray) (d : List S61) (l v : List Int) : Int := if sWhole a b c d = 0 then (if isA d l && isV b v then 0 else 130) else 7
theorem is_ev {a : List ByteArray} {b : List S50} {c : List ByteArray} {d : List S61} (h : OkN a b c d) (l v : List Int) : Ev (fun k => state_is.f k a b c d l v) (isA d l && isV b v) := by
  refine Ev.congr (fun k => by rw [state_is.f]) (Ev.bind (isA_ev h.dl) ?_)
  cases isA d l with
  | false => exact Ev.congr (fun k => by rw [if_neg (by decide)]) (Ev.now false)
  | true => exact Ev.congr (fun k => by (rw [if_pos rfl]; try rfl)) (Ev.bind (isV_ev h.bl) (by simpa using Ev.now (isV b v)))
theorem right2_ev {a : List ByteArray} {b : List S50} {c : List ByteArray} {d : List S61} (h : OkN a b c d) : Ev (fun k => net_Right.f k a b c d) (sWhole a b c d == 0) :=
  Ev.congr (fun k => by rw [net_Right.f]) (Ev.bind (whole_ev h) (Ev.now _))
theorem wrong_ev {a : List ByteArray} {b : List S50} {c : List ByteArray} {d : List S61} (h : OkN a b c d) (l v : List Int) : Ev (fun k => state_wrong.f k a b c d l v) (sWrong a b c d l v) := by
  refine Ev.congr (fun k => by rw [state_wrong.f]) (Ev.bind (right2_ev h) ?_)
  unfold sWrong
  by_cases h0 : sWhole a b c d = 0
  · rw [if_pos h0]
    refine Ev.congr (fun k => by (rw [if_pos (by rw [h0]; rfl)]; try rfl)) (Ev.bind (is_ev h l v) ?_)
    cases isA d l && isV b v with
    | false => exact Ev.congr (fun k => by rw [if_neg (by decide)]) (Ev.now 130)
    | true => exact Ev.congr (fun k => by rw [if_pos rfl]) (Ev.now 0)
  · rw [if_neg h0]
    exact Ev.congr (fun k => by rw [if_neg (by simpa using h0)]) (Ev.now 7)
/-! A state's bytes -/
def four (n : Int) : List Int := [((wrap64 n) % 4294967296) / 16777216, (((wrap64 n) % 4294967296) / 65536) % 256, (((wrap64 n) % 4294967296) / 256) % 256, ((wrap64 n) % 4294967296) % 256]
def keyV : List S50 → List Int → List Int
  | v :: t, y :: u => four (y - v.f1) ++ keyV t u
  | _, _ => []
theorem keyV_len : ∀ (b : List S50) (v : List Int), (keyV b v).length ≤ 4 * b.length
  | [], [] => by simp [keyV]
  | x :: t, y :: u => by
    have := keyV_len t u
    simp [keyV, four]
    omega
  | [], _ :: _ => by simp [keyV]
  | _ :: _, [] => by simp [keyV]
theorem key_loop2 {a : List ByteArray} {b : List S50} {c : List ByteArray} {d : List S61} {v : List Int} (hb : b.length ≤ 16) (hv : b.length = v.length) : ∀ n (i : Nat) (acc : List Int), v.length - i ≤ n → i ≤ v.length → acc.length ≤ 1000 + 4 * i →
    Ev (fun k => state_Key.l1 k acc v (v.length : Int) (i : Int) a b c d) (acc ++ keyV (b.drop i) (v.drop i), 0)
  | 0, i, acc, h1, h2, h3 => by
    obtain rfl : i = v.length := by omega
    rw [List.drop_eq_nil_of_le (Nat.le_refl v.length), List.drop_eq_nil_of_le (show b.length ≤ v.length by omega)]
    exact Ev.step (fun k => by rw [state_Key.l1, if_neg (by omega)]) (by simpa [keyV] using Ev.now (acc, (0 : Int)))
  | n + 1, i, acc, h1, h2, h3 => by
    rcases Nat.lt_or_ge i v.length with h | h
    · have hdr := List.drop_eq_getElem_cons h
      have hbr := List.drop_eq_getElem_cons (show i < b.length by omega)
      have hin := inside hdr (by omega)
      have ih := key_loop2 (a := a) (c := c) (d := d) hb hv n (i + 1) (acc ++ four (v[i] - (b[i]'(by omega)).f1)) (by omega) (by omega) (by simp [four]; omega)
      rw [hdr, hbr]
      unfold keyV
      rw [← List.append_assoc]
      refine Ev.step (fun k => ?_) ih
      rw [state_Key.l1, if_pos hin.1, if_pos hin.2.1, if_pos hin.1, if_pos (show (i : Int) < (b.length : Int) by omega), Option.bind_some, if_pos (by simp; omega), rd_at hdr, show rd_T50 b (i : Int) = b[i]'(by omega) from getD_at hbr _, hin.2.2]
      rfl
    · obtain rfl : i = v.length := by omega
      rw [List.drop_eq_nil_of_le (Nat.le_refl v.length), List.drop_eq_nil_of_le (show b.length ≤ v.length by omega)]
      exact Ev.step (fun k => by rw [state_Key.l1, if_neg (by omega)]) (by simpa [keyV] using Ev.now (acc, (0 : Int)))
theorem key_loop1 {a : List ByteArray} {b : List S50} {c : List ByteArray} {d : List S61} {l v : List Int} {r : List Int × Int} (hl : l.length ≤ 8) : ∀ n (i : Nat) (acc : List Int), l.length - i ≤ n → i ≤ l.length → acc.length = i →
    Ev (fun k => state_Key.l1 k (acc ++ (l.drop i).map (· % 256)) v (v.length : Int) 0 a b c d) r → Ev (fun k => state_Key.l0 k acc l (l.length : Int) (i : Int) a b c d l v) r
  | 0, i, acc, h1, h2, h3, hr => by
    obtain rfl : i = l.length := by omega
    rw [List.drop_eq_nil_of_le (Nat.le_refl l.length)] at hr
    exact Ev.step (fun k => by rw [state_Key.l0, if_neg (by omega)]) (by simpa using hr)
  | n + 1, i, acc, h1, h2, h3, hr => by
    rcases Nat.lt_or_ge i l.length with h | h
    · have hdr := List.drop_eq_getElem_cons h
      have hin := inside hdr (by omega)
      rw [hdr, List.map_cons, show acc ++ (l[i] % 256 :: (l.drop (i + 1)).map (· % 256)) = (acc ++ [l[i] % 256]) ++ (l.drop (i + 1)).map (· % 256) by simp] at hr
      have ih := key_loop1 (a := a) (b := b) (c := c) (d := d) (v := v) hl n (i + 1) (acc ++ [l[i] % 256]) (by omega) (by omega) (by simp [h3]) hr
      refine Ev.step (fun k => ?_) ih
      rw [state_Key.l0, if_pos hin.1, if_pos hin.2.1, if_pos hin.1, if_pos (by omega), rd_at hdr, hin.2.2]
    · obtain rfl : i = l.length := by omega
      rw [List.drop_eq_nil_of_le (Nat.le_refl l.length)] at hr
      exact Ev.step (fun k => by rw [state_Key.l0, if_neg (by omega)]) (by simpa using hr)
noncomputable def sKey (a : List ByteArray) (b : List S50) (c : List ByteArray) (d : List S61) (l v : List Int) : List Int × Int :=
  if sWrong a b c d l v = 0 then (l.map (· % 256) ++ keyV b v, 0) else ([], sWrong a b c d l v)
theorem wrong_zero {a : List ByteArray} {b : List S50} {c : List ByteArray} {d : List S61} {l v : List Int} (h : sWrong a b c d l v = 0) : sWhole a b c d = 0 ∧ isA d l = true ∧ isV b v = true := by
  unfold sWrong at h
  by_cases h0 : sWhole a b c d = 0
  · rw [if_pos h0] at h
    cases hA : isA d l <;> cases hV : isV b v <;> simp [hA, hV] at h
    exact ⟨h0, rfl, rfl⟩
  · rw [if_neg h0] at h; cases h
theorem key_ev {a : List ByteArray} {b : List S50} {c : List ByteArray} {d : List S61} (h : OkN a b c d) (l v : List Int) : Ev (fun k => state_Key.f k a b c d l v) (sKey a b c d l v) := by
  refine Ev.congr (fun k => by rw [state_Key.f]) (Ev.bind (wrong_ev h l v) ?_)
  unfold sKey
  by_cases h0 : sWrong a b c d l v = 0
  · rw [if_pos h0]
    obtain ⟨hW, hA, hV⟩ := wrong_zero h0
    have hf := whole_facts hW
    have la := isA_len hA
    have lv := isV_len hV
    have hd8 := hf.2.2.2.1.dd
    refine Ev.congr (fun k => by rw [if_pos h0]) ?_
    have := key_loop1 (a := a) (b := b) (c := c) (d := d) (l := l) (v := v) (by omega) l.length 0 [] (by omega) (Nat.zero_le _) rfl (r := (l.map (· % 256) ++ keyV b v, 0)) (by
      have := key_loop2 (a := a) (c := c) (d := d) hf.2.1 lv v.length 0 (l.map (· % 256)) (by omega) (Nat.zero_le _) (by simp; omega)
      simpa using this)
    simpa using this
  · rw [if_neg h0]
    exact Ev.congr (fun k => by rw [if_neg h0]) (Ev.now _)
/-! The order of the bytes -/
theorem cmp256 {h h' l l' : Int} (a : 0 ≤ l ∧ l < 256) (b : 0 ≤ l' ∧ l' < 256) : (if cmpI h h' = 0 then cmpI l l' else cmpI h h') = cmpI (h * 256 + l) (h' * 256 + l') := by
  unfold cmpI
  repeat' split
  all_goals omega
theorem cmp65536 {h h' l l' : Int} (a : 0 ≤ l ∧ l < 65536) (b : 0 ≤ l' ∧ l' < 65536) : (if cmpI h h' = 0 then cmpI l l' else cmpI h h') = cmpI (h * 65536 + l) (h' * 65536 + l') := by
  unfold cmpI
  repeat' split
  all_goals omega
theorem cmp16777216 {h h' l l' : Int} (a : 0 ≤ l ∧ l < 16777216) (b : 0 ≤ l' ∧ l' < 16777216) : (if cmpI h h' = 0 then cmpI l l' else cmpI h h') = cmpI (h * 16777216 + l) (h' * 16777216 + l') := by
  unfold cmpI
  repeat' split
  all_goals omega
theorem four_eq {u : Int} (h : 0 ≤ u ∧ u < 4294967296) : four u = [u / 16777216, u / 65536 % 256, u / 256 % 256, u % 256] := by
  unfold four
  rw [show wrap64 u = u by unfold wrap64; omega, show u % 4294967296 = u by omega]
theorem four_cmp {u w : Int} (hu : 0 ≤ u ∧ u < 4294967296) (hw : 0 ≤ w ∧ w < 4294967296) : cmpL (four u) (four w) = cmpI u w := by
  rw [four_eq hu, four_eq hw]
  simp only [cmpL_cc, cmpL_nn]
  have e0 : ∀ x : Int, (if x = 0 then (0 : Int) else x) = x := fun x => by split <;> omega
  rw [e0, cmp256 (by omega) (by omega), cmp65536 (by omega) (by omega), cmp16777216 (by omega) (by omega)]
  rw [show u / 16777216 * 16777216 + (u / 65536 % 256 * 65536 + (u / 256 % 256 * 256 + u % 256)) = u by omega, show w / 16777216 * 16777216 + (w / 65536 % 256 * 65536 + (w / 256 % 256 * 256 + w % 256)) = w by omega]
theorem four_byte {u : Int} (h : 0 ≤ u ∧ u < 4294967296) : ∀ x ∈ four u, byte x := by
  rw [four_eq h]
  intro x hx
  unfold byte
  simp only [List.mem_cons, List.mem_nil_iff, or_false] at hx
  rcases hx with rfl | rfl | rfl | rfl <;> omega
theorem keyV_cmp : ∀ {b : List S50} {p q : List Int}, (∀ v ∈ b, -1048576 ≤ v.f1 ∧ v.f2 ≤ 1048576) → isV b p = true → isV b q = true → cmpL (keyV b p) (keyV b q) = cmpL p q ∧ ∀ x ∈ keyV b p, byte x
  | [], [], [], _, _, _ => ⟨rfl, fun x hx => by simp [keyV] at hx⟩
  | v :: t, y :: p, z :: q, hb, hp, hq => by
    simp only [isV, Bool.and_eq_true, decide_eq_true_eq] at hp hq
    have hv := hb v List.mem_cons_self
    have ih := keyV_cmp (b := t) (p := p) (q := q) (fun w hw => hb w (List.mem_cons_of_mem _ hw)) hp.2 hq.2
    have hu : 0 ≤ y - v.f1 ∧ y - v.f1 < 4294967296 := by omega
    have hw : 0 ≤ z - v.f1 ∧ z - v.f1 < 4294967296 := by omega
    unfold keyV
    refine ⟨?_, fun x hx => ?_⟩
    · rw [cmpL_append _ _ (by simp [four]), four_cmp hu hw, ih.1, cmpL_cc]
      have : cmpI (y - v.f1) (z - v.f1) = cmpI y z := by
        unfold cmpI
        repeat' split
        all_goals omega
      rw [this]
    · rcases List.mem_append.1 hx with h | h
      · exact four_byte hu x h
      · exact ih.2 x h
  | [], _ :: _, _, _, h, _ => by simp [isV] at h
  | [], [], _ :: _, _, _, h => by simp [isV] at h
  | _ :: _, [], _, _, h, _ => by simp [isV] at h
  | _ :: _, _ :: _, [], _, _, h => by simp [isV] at h
theorem isA_byte : ∀ {d : List S61} {l : List Int}, (∀ x ∈ d, x.f1.length ≤ 64) → isA d l = true → l.map (· % 256) = l ∧ ∀ x ∈ l, byte x
  | [], [], _, _ => ⟨rfl, fun x hx => by simp at hx⟩
  | x :: t, y :: u, hd, h => by
    simp only [isA, Bool.and_eq_true, decide_eq_true_eq] at h
    have hx := hd x List.mem_cons_self
    have ih := isA_byte (d := t) (l := u) (fun z hz => hd z (List.mem_cons_of_mem _ hz)) h.2
    refine ⟨?_, fun z hz => ?_⟩
    · rw [List.map_cons, ih.1, show y % 256 = y by omega]
    · rcases List.mem_cons.1 hz with rfl | hz
      · unfold byte; omega
      · exact ih.2 z hz
  | [], _ :: _, _, h => by simp [isA] at h
  | _ :: _, [], _, h => by simp [isA] at h
theorem str_list (xs : List Int) : (strOfNums xs).toList = xs.map fun n => UInt8.ofNat n.toNat := by
  rw [Lib.toList_data]
  simp [strOfNums]
theorem key_order {a : List ByteArray} {b : List S50} {c : List ByteArray} {d : List S61} {l v m w : List Int} (h1 : sWrong a b c d l v = 0) (h2 : sWrong a b c d m w = 0) :
    Op.bytesLess (strOfNums (sKey a b c d l v).1).toList (strOfNums (sKey a b c d m w).1).toList = decide (cmpS l v m w < 0) ∧ ((strOfNums (sKey a b c d l v).1).toList == (strOfNums (sKey a b c d m w).1).toList) = (cmpS l v m w == 0) := by
  obtain ⟨hW, hA, hV⟩ := wrong_zero h1
  obtain ⟨_, hA2, hV2⟩ := wrong_zero h2
  have hf := whole_facts hW
  have b1 := isA_byte hf.2.2.2.1.l hA
  have b2 := isA_byte hf.2.2.2.1.l hA2
  have hvv : ∀ v ∈ b, -1048576 ≤ v.f1 ∧ v.f2 ≤ 1048576 := fun v hv => ⟨(hf.2.2.2.2.1 v hv).2.2.1, (hf.2.2.2.2.1 v hv).2.2.2⟩
  have k1 := keyV_cmp hvv hV hV2
  have k2 := keyV_cmp hvv hV2 hV
  have e1 : (sKey a b c d l v).1 = l ++ keyV b v := by unfold sKey; rw [if_pos h1, b1.1]
  have e2 : (sKey a b c d m w).1 = m ++ keyV b w := by unfold sKey; rw [if_pos h2, b2.1]
  have hc : cmpL (l ++ keyV b v) (m ++ keyV b w) = cmpS l v m w := by
    rw [cmpL_append _ _ ((isA_len hA).symm.trans (isA_len hA2)), k1.1]
    rfl
  rw [e1, e2, str_list, str_list, ← hc]
  refine bytesLess_cmp (fun x hx => ?_) (fun x hx => ?_)
  · rcases List.mem_append.1 hx with h | h
    · exact b1.2 x h
    · exact k1.2 x h
  · rcases List.mem_append.1 hx with h | h
    · exact b2.2 x h
    · exact k2.2 x h
end Go.Proofs.YtpmhfahligjhaaaDoor.POrd
