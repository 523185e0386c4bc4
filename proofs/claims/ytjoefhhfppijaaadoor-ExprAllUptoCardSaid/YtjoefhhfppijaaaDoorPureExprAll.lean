import Derived.Test.YtjoefhhfppijaaaDoorOAll
import Derived.Test.YtjoefhhfppijaaaDoorPureXV
namespace Go.Proofs.YtjoefhhfppijaaaDoor.PAll
set_option linter.unusedVariables false
set_option linter.unusedSimpArgs false
open Go Go.RowKit Go.Proofs.YtjoefhhfppijaaaDoorW.PrintWords Go.Proofs.YtjoefhhfppijaaaDoorW.PrintMore

theorem ops_of_ok2 {l : List S96} (h : ∀ z ∈ l, ok96 z) : opsOk l := fun z hz => by
  have := (h z hz).1
  simp [Lit.wf, IntKind.min, IntKind.max, IntKind.signed, IntKind.bits] at this
  exact this
theorem ints_of_wf2 {l : List Int} (h : ∀ z ∈ l, (Lit.int .i64 z).wf = true) : ∀ z ∈ l, i64 z := fun z hz => by
  have := h z hz
  simp [Lit.wf, IntKind.min, IntKind.max, IntKind.signed, IntKind.bits] at this
  exact this
/-- One of a list of lists. -/
def Li (ls : List (List S96)) (i : Nat) : List S96 := rd_L6 ls (i : Int)
theorem Li_get {ls : List (List S96)} {i : Nat} (h : i < ls.length) : Li ls i = ls[i] := by
  unfold Li rd_L6
  simp [List.getD, h]
/-- All joined, from one on. -/
def joined : List S96 → List (List S96) → List S96
  | acc, [] => acc
  | acc, x :: r => if x = [] then joined acc r else if acc = [] then joined x r else joined ((⟨13, 0⟩ : S96) :: (acc ++ x)) r
theorem clone_eq {l : List S96} (h : l.length < 8796093022208) : api_Node_44.f l = some l := by
  unfold api_Node_44.f
  rw [if_pos h]
theorem concat_l1 : ∀ (n : Nat) (l : List (List S96)) (i : Nat) (x : List S96), l.length - i ≤ n → i ≤ l.length → l.length ≤ 140737488351232 → (x.length + (l.drop i).flatten.length < 8796093022208) →
    Ev (fun k => api_Node_45.l1 k x l (l.length : Int) (i : Int)) (x ++ (l.drop i).flatten)
  | 0, l, i, x, h1, h2, hb, hs => by
    rw [List.drop_eq_nil_of_le (by omega)]
    refine Ev.step (fun k => ?_) (Ev.now _)
    rw [api_Node_45.l1, if_neg (by omega)]
    simp
  | n + 1, l, i, x, h1, h2, hb, hs => by
    by_cases hi : i < l.length
    · rw [List.drop_eq_getElem_cons hi, List.flatten_cons] at hs ⊢
      rw [List.length_append] at hs
      have ih := concat_l1 n l (i + 1) (x ++ l[i]) (by omega) (by omega) hb (by rw [List.length_append]; omega)
      rw [List.append_assoc] at ih
      refine Ev.step (fun k => ?_) ih
      rw [api_Node_45.l1, if_pos (by omega), if_pos (by omega), if_pos (by omega), show rd_L6 l (i : Int) = l[i] from Li_get hi, if_pos (by omega), show wrap64 ((i : Int) + 1) = ((i + 1 : Nat) : Int) by unfold wrap64; omega]
    · rw [List.drop_eq_nil_of_le (by omega)]
      refine Ev.step (fun k => ?_) (Ev.now _)
      rw [api_Node_45.l1, if_neg (by omega)]
      simp
theorem concat_l0 : ∀ (n : Nat) (l : List (List S96)) (i : Nat) (s : Int), l.length - i ≤ n → i ≤ l.length → l.length ≤ 140737488351232 → 0 ≤ s → (s + ((l.drop i).flatten.length : Int) < 8796093022208) → l.flatten.length < 8796093022208 →
    Ev (fun k => api_Node_45.l0 k l s l (l.length : Int) (i : Int)) l.flatten
  | 0, l, i, s, h1, h2, hb, h0, hs, hf => by
    refine Ev.step (fun k => by (rw [api_Node_45.l0, if_neg (by omega)]; try rfl)) (Ev.bind (a := []) (Ev.congr (fun k => ?_) (Ev.now _)) ?_)
    · unfold api_Node_107.f
      rw [if_pos ⟨rfl, h0, by omega⟩]
    · have := concat_l1 l.length l 0 [] (by omega) (Nat.zero_le _) hb (by simpa using hf)
      simpa using this
  | n + 1, l, i, s, h1, h2, hb, h0, hs, hf => by
    by_cases hi : i < l.length
    · rw [List.drop_eq_getElem_cons hi, List.flatten_cons, List.length_append] at hs
      have hw : wrap64 (s + ((Li l i).length : Int)) = s + (l[i].length : Int) := by rw [Li_get hi]; unfold wrap64; omega
      have ih := concat_l0 n l (i + 1) (s + (l[i].length : Int)) (by omega) (by omega) hb (by omega) (by omega) hf
      refine Ev.step (fun k => ?_) ih
      rw [api_Node_45.l0, if_pos (by omega), if_pos (by omega), if_pos (by omega), show rd_L6 l (i : Int) = Li l i from rfl, hw, if_neg (by omega), show wrap64 ((i : Int) + 1) = ((i + 1 : Nat) : Int) by unfold wrap64; omega]
    · refine Ev.step (fun k => by (rw [api_Node_45.l0, if_neg (by omega)]; try rfl)) (Ev.bind (a := []) (Ev.congr (fun k => ?_) (Ev.now _)) ?_)
      · unfold api_Node_107.f
        rw [if_pos ⟨rfl, h0, by omega⟩]
      · have := concat_l1 l.length l 0 [] (by omega) (Nat.zero_le _) hb (by simpa using hf)
        simpa using this
theorem concat_ev {l : List (List S96)} (hb : l.length ≤ 140737488351232) (hf : l.flatten.length < 8796093022208) : Ev (fun k => api_Node_45.f k l) l.flatten := by
  have := concat_l0 l.length l 0 0 (by omega) (Nat.zero_le _) hb (Int.le_refl _) (by rw [List.drop_zero]; omega) hf
  exact Ev.congr (fun k => by (rw [api_Node_45.f]; try rfl)) this
theorem all_loop {ls : List (List S96)} (hb : ls.length ≤ 140737488351232) : ∀ (n i : Nat) (acc : List S96), ls.length - i ≤ n → i ≤ ls.length → acc.length + ((ls.drop i).flatten.length + (ls.length - i)) < 8796093022208 →
    Ev (fun k => expr_All.l0 k acc ls (ls.length : Int) (i : Int)) (joined acc (ls.drop i)) := by
  intro n
  induction n with
  | zero =>
    intro i acc h1 h2 hs
    rw [List.drop_eq_nil_of_le (by omega)]
    exact Ev.step (fun k => by rw [expr_All.l0, if_neg (by omega)]; rfl) (Ev.now _)
  | succ n ih =>
    intro i acc h1 h2 hs
    by_cases hi : i < ls.length
    · have hw : wrap64 ((i : Int) + 1) = ((i + 1 : Nat) : Int) := by unfold wrap64; omega
      have hr : rd_L6 ls (i : Int) = ls[i] := Li_get hi
      rw [List.drop_eq_getElem_cons hi] at hs ⊢
      rw [List.flatten_cons, List.length_append] at hs
      simp only [joined]
      by_cases hx : ls[i] = []
      · rw [if_pos hx]
        refine Ev.step (fun k => ?_) (ih (i + 1) acc (by omega) (by omega) (by omega))
        rw [expr_All.l0, if_pos (by omega), if_pos (by omega), if_pos (by omega), hr, if_pos (by rw [hx]; rfl), hw]
      · have hx2 : ls[i].length ≠ 0 := fun h => hx (List.eq_nil_of_length_eq_zero h)
        rw [if_neg hx]
        by_cases ha : acc = []
        · rw [if_pos ha]
          refine Ev.step (fun k => ?_) (ih (i + 1) ls[i] (by omega) (by omega) (by rw [ha, List.length_nil] at hs; omega))
          rw [expr_All.l0, if_pos (by omega), if_pos (by omega), if_pos (by omega), hr, if_neg (by omega), if_pos (by rw [ha]; rfl), clone_eq (by omega), Option.bind_some, hw]
        · have ha2 : acc.length ≠ 0 := fun h => ha (List.eq_nil_of_length_eq_zero h)
          rw [if_neg ha]
          have hc := concat_ev (l := [[(⟨13, 0⟩ : S96)], acc, ls[i]]) (by simp) (by simp; omega)
          rw [show [[(⟨13, 0⟩ : S96)], acc, ls[i]].flatten = (⟨13, 0⟩ : S96) :: (acc ++ ls[i]) by simp] at hc
          refine Ev.step (fun k => by (rw [expr_All.l0, if_pos (by omega), if_pos (by omega), if_pos (by omega), hr, if_neg (by omega), if_neg (by omega)]; try rfl)) (Ev.bind hc ?_)
          refine Ev.congr (fun k => by rw [hw]) (ih (i + 1) ((⟨13, 0⟩ : S96) :: (acc ++ ls[i])) (by omega) (by omega) (by rw [List.length_cons, List.length_append]; omega))
    · rw [List.drop_eq_nil_of_le (by omega)]
      exact Ev.step (fun k => by rw [expr_All.l0, if_neg (by omega)]; rfl) (Ev.now _)
section
variable {vars : List Int}
/-- What a list is, that holds or does not: none, or a truth's tree with a value. -/
def Held (vars : List Int) (l : List S96) (b : Bool) : Prop := (l = [] ∧ b = true) ∨ ∃ x : X, l = enc x ∧ x.ok (vars.length : Int) ∧ Tr x.op = true ∧ (vl vars x).2.2 = false ∧ (vl vars x).2.1 = b
theorem holds_any {l : List S96} (ho : opsOk l) (hvl : vars.length ≤ 140737488355328) (hv : ∀ z ∈ vars, i64 z) :
    ∃ r, Ev (fun k => expr_Holds.f k l vars) r ∧ (r.2 = 0 → Held vars l r.1) := by
  by_cases h0 : l = []
  · exact ⟨(true, 0), Ev.congr (fun k => by rw [expr_Holds.f, if_pos (by rw [h0]; rfl)]) (Ev.now _), fun _ => .inl ⟨h0, rfl⟩⟩
  have hne : l.length ≠ 0 := fun h => h0 (List.eq_nil_of_length_eq_zero h)
  obtain ⟨c, h1, _, h3, h4⟩ := right_both ho (k := (vars.length : Int)) ⟨by omega, by omega⟩
  have bad : Ev (fun m => expr_Holds.j0 m l vars true) (false, 121) := Ev.step (fun k => by rw [expr_Holds.j0, if_pos rfl]) (Ev.now _)
  by_cases hc : c = 0
  · subst hc
    obtain ⟨x, rfl, hok, _⟩ := good_tree (h4.1 rfl)
    have hl := (h4.1 rfl).len
    by_cases hT : Tr x.op = true
    · refine ⟨_, (value_tree hvl hv hok hl).2 hT, fun hr => .inr ⟨x, rfl, hok, hT, ?_, ?_⟩⟩
      · unfold toldB at hr
        by_cases hov : (vl vars x).2.2 = true
        · rw [if_pos hov] at hr; cases hr
        · simpa using hov
      · unfold toldB at hr ⊢
        by_cases hov : (vl vars x).2.2 = true
        · rw [if_pos hov] at hr; cases hr
        · rw [if_neg hov]
    · have ht := isTruth_ev (r := []) hok
      rw [List.append_nil] at ht
      exact ⟨_, Ev.congr (fun k => by (rw [expr_Holds.f, if_neg (by omega)]; try rfl)) (Ev.bind h1 (Ev.congr (fun k => by (rw [if_pos rfl, ht, Option.bind_some, show Tr x.op = false by simpa using hT]; try rfl)) bad)), fun h => by cases h⟩
  · exact ⟨_, Ev.congr (fun k => by (rw [expr_Holds.f, if_neg (by omega)]; try rfl)) (Ev.bind h1 (Ev.congr (fun k => by (rw [if_neg hc]; try rfl)) bad)), fun h => by cases h⟩
theorem held_back {l : List S96} {b : Bool} (hvl : vars.length ≤ 140737488355328) (hv : ∀ z ∈ vars, i64 z) (h : Held vars l b) (hl : l.length ≤ 64) : Ev (fun k => expr_Holds.f k l vars) (b, 0) := by
  rcases h with ⟨rfl, rfl⟩ | ⟨x, rfl, hok, hT, hov, hb⟩
  · exact Ev.congr (fun k => by rw [expr_Holds.f, if_pos (show (([] : List S96).length : Int) = 0 from rfl)]) (Ev.now _)
  · have := (value_tree hvl hv hok hl).2 hT
    unfold toldB at this
    rw [hov, hb] at this
    exact this
theorem held_long {l : List S96} (ho : opsOk l) (hvl : vars.length ≤ 140737488355328) (hl : 64 < l.length) : Ev (fun k => expr_Holds.f k l vars) (false, 121) := by
  obtain ⟨c, h1, _, h3, h4⟩ := right_both ho (k := (vars.length : Int)) ⟨by omega, by omega⟩
  have hc : c ≠ 0 := fun h => by have := (h4.1 h).len; omega
  have bad : Ev (fun m => expr_Holds.j0 m l vars true) (false, 121) := Ev.step (fun k => by rw [expr_Holds.j0, if_pos rfl]) (Ev.now _)
  exact Ev.congr (fun k => by (rw [expr_Holds.f, if_neg (by omega)]; try rfl)) (Ev.bind h1 (Ev.congr (fun k => by (rw [if_neg hc]; try rfl)) bad))
theorem held_and {l m : List S96} {a b : Bool} (hl : Held vars l a) (hm : Held vars m b) (h1 : l ≠ []) (h2 : m ≠ []) : Held vars ((⟨13, 0⟩ : S96) :: (l ++ m)) (a && b) := by
  rcases hl with ⟨e, _⟩ | ⟨x, rfl, x1, x2, x3, x4⟩
  · exact absurd e h1
  rcases hm with ⟨e, _⟩ | ⟨y, rfl, y1, y2, y3, y4⟩
  · exact absurd e h2
  have t13 : Takes 13 = true := by decide +kernel
  refine .inr ⟨.two 13 x y, rfl, ?_, by show Tr 13 = true; decide +kernel, ?_, ?_⟩
  · simp only [X.ok]
    exact ⟨by unfold isTwo; omega, x2.trans t13.symm, y2.trans t13.symm, x1, y1⟩
  · simp only [vl]
    rw [if_neg (by rw [x3]; decide)]
    split
    · exact x3
    · rw [if_neg (by rw [y3]; decide)]
      exact y3
  · simp only [vl]
    rw [if_neg (by rw [x3]; decide), x4]
    cases a with
    | false => rw [if_pos (.inl ⟨trivial, rfl⟩), x4]; rfl
    | true =>
      rw [if_neg (by simp), if_neg (by rw [y3]; decide)]
      exact y4.trans (by simp)
theorem joined_held : ∀ (ls : List (List S96)) (acc : List S96) (a : Bool) (bs : List Bool), ls.length = bs.length → (∀ (i : Nat) (l : List S96) (b : Bool), ls[i]? = some l → bs[i]? = some b → Held vars l b) → Held vars acc a → Held vars (joined acc ls) (bs.foldl (· && ·) a)
  | [], acc, a, [], _, _, h => h
  | [], _, _, _ :: _, h, _, _ => by simp at h
  | _ :: _, _, _, [], h, _, _ => by simp at h
  | l :: ls, acc, a, b :: bs, hlen, hh, h => by
    have h0 := hh 0 l b rfl rfl
    have hrest : ∀ (i : Nat) (l : List S96) (b : Bool), ls[i]? = some l → bs[i]? = some b → Held vars l b := fun i l b h1 h2 => hh (i + 1) l b (by simpa using h1) (by simpa using h2)
    simp only [joined, List.foldl_cons]
    by_cases hx : l = []
    · rw [if_pos hx]
      have hb : b = true := by
        rcases h0 with ⟨_, h⟩ | ⟨x, e, _⟩
        · exact h
        · have := enc_pos x; rw [← e, hx] at this; simp at this
      rw [hb, Bool.and_true]
      exact joined_held ls acc a bs (by simpa using hlen) hrest h
    · rw [if_neg hx]
      by_cases ha : acc = []
      · rw [if_pos ha]
        have hat : a = true := by
          rcases h with ⟨_, h⟩ | ⟨x, e, _⟩
          · exact h
          · have := enc_pos x; rw [← e, ha] at this; simp at this
        rw [hat, Bool.true_and]
        exact joined_held ls l b bs (by simpa using hlen) hrest h0
      · rw [if_neg ha]
        exact joined_held ls _ _ bs (by simpa using hlen) hrest (held_and h h0 ha hx)
theorem joined_ops : ∀ (ls : List (List S96)) (acc : List S96), (∀ l ∈ ls, opsOk l) → opsOk acc → opsOk (joined acc ls)
  | [], _, _, h => h
  | l :: ls, acc, hl, h => by
    simp only [joined]
    have h0 := hl l List.mem_cons_self
    have hr : ∀ l ∈ ls, opsOk l := fun z hz => hl z (List.mem_cons_of_mem _ hz)
    split
    · exact joined_ops ls acc hr h
    · split
      · exact joined_ops ls l hr h0
      · refine joined_ops ls _ hr (fun z hz => ?_)
        rcases List.mem_cons.1 hz with rfl | hz
        · unfold byteOp; simp only; omega
        · rcases List.mem_append.1 hz with hz | hz
          · exact h z hz
          · exact h0 z hz
theorem law_loop {ls : List (List S96)} (hops : ∀ l ∈ ls, opsOk l) (hb : ls.length ≤ 1048576) (hf : ls.flatten.length ≤ 1048576) (hvl : vars.length ≤ 140737488355328) (hv : ∀ z ∈ vars, i64 z) : ∀ (n i : Nat) (bs : List Bool), ls.length - i ≤ n → i ≤ ls.length → bs.length = i → (∀ (j : Nat) (l : List S96) (b : Bool), ls[j]? = some l → bs[j]? = some b → Held vars l b) →
    Ev (fun k => gnomonlaw08_ExprAll.l0 k ls vars (bs.foldl (· && ·) true) (i : Int)) true := by
  have fin : ∀ (i : Nat) (bs : List Bool), i = ls.length → bs.length = i → (∀ (j : Nat) (l : List S96) (b : Bool), ls[j]? = some l → bs[j]? = some b → Held vars l b) → Ev (fun k => gnomonlaw08_ExprAll.l0 k ls vars (bs.foldl (· && ·) true) (i : Int)) true := by
    intro i bs hi hbs hh
    subst hi
    have hall : Ev (fun k => expr_All.f k ls) (joined [] ls) := by
      have := all_loop (ls := ls) (by omega) ls.length 0 [] (by omega) (Nat.zero_le _) (by rw [List.drop_zero, List.length_nil]; omega)
      rw [List.drop_zero] at this
      exact Ev.congr (fun k => by (rw [expr_All.f]; try rfl)) this
    have hheld : Held vars (joined [] ls) (bs.foldl (· && ·) true) := joined_held ls [] true bs hbs.symm hh (.inl ⟨rfl, rfl⟩)
    refine Ev.step (fun k => by (rw [gnomonlaw08_ExprAll.l0, if_neg (by omega)]; try rfl)) (Ev.bind hall ?_)
    by_cases hl : 64 < (joined [] ls).length
    · refine Ev.bind (held_long (joined_ops ls [] hops (fun z hz => by cases hz)) hvl hl) (Ev.bind live_ev ?_)
      exact Ev.congr (fun k => by rw [if_pos rfl, if_pos (by omega), if_pos rfl]) (Ev.now _)
    · refine Ev.bind (held_back hvl hv hheld (by omega)) (Ev.bind live_ev ?_)
      exact Ev.congr (fun k => by rw [if_pos rfl, if_neg (by omega), if_pos (by omega), if_pos rfl, beq_self_eq_true]) (Ev.now _)
  intro n
  induction n with
  | zero => intro i bs h1 h2 h3 h4; exact fin i bs (by omega) h3 h4
  | succ n ih =>
    intro i bs h1 h2 h3 h4
    by_cases hi : i = ls.length
    · exact fin i bs hi h3 h4
    · have hil : i < ls.length := by omega
      have hr : rd_L6 ls (i : Int) = ls[i] := Li_get hil
      obtain ⟨r, hr1, hr2⟩ := holds_any (l := ls[i]) (hops _ (List.getElem_mem hil)) hvl hv
      refine Ev.step (fun k => by (rw [gnomonlaw08_ExprAll.l0, if_pos (by omega), if_pos (by omega), hr]; try rfl)) (Ev.bind hr1 ?_)
      by_cases h0 : r.2 = 0
      · have hw : wrap64 ((i : Int) + 1) = ((i + 1 : Nat) : Int) := by unfold wrap64; omega
        have nx := ih (i + 1) (bs ++ [r.1]) (by omega) (by omega) (by simp [h3]) (fun j l b e1 e2 => by
          rcases Nat.lt_or_ge j bs.length with h | h
          · rw [List.getElem?_append_left h] at e2; exact h4 j l b e1 e2
          · rw [List.getElem?_append_right h] at e2
            have hj : j = i := by
              rcases Nat.eq_zero_or_pos (j - bs.length) with hz | hz
              · omega
              · rw [List.getElem?_eq_none (by simp; omega)] at e2; cases e2
            subst hj
            rw [h3, Nat.sub_self] at e2
            obtain rfl : r.1 = b := by simpa using e2
            rw [List.getElem?_eq_getElem hil] at e1
            rw [← Option.some.inj e1]
            exact hr2 h0)
        rw [List.foldl_append] at nx
        simp only [List.foldl_cons, List.foldl_nil] at nx
        cases hq : bs.foldl (· && ·) true with
        | true =>
          rw [hq, Bool.true_and] at nx
          exact Ev.congr (fun k => by rw [if_pos h0, if_pos rfl, hw]) nx
        | false =>
          rw [hq, Bool.false_and] at nx
          exact Ev.congr (fun k => by rw [if_pos h0, if_neg (by decide), hw]) nx
      · exact Ev.congr (fun k => by (rw [if_neg h0]; try rfl)) (Ev.bind live_ev (Ev.now _))
end
theorem bulk_of : ∀ (ls : List (List S96)), ls.flatten.length + ls.length ≤ (ls.map fun z => ((z.map fun z => wt96 z).sum + 1)).sum
  | [] => by simp
  | l :: ls => by
    have ih := bulk_of ls
    have h1 : ∀ z : List S96, z.length ≤ (z.map fun z => wt96 z).sum := fun z => by
      induction z with
      | nil => simp
      | cons x z ih => simp only [List.length_cons, List.map_cons, List.sum_cons]; have : 1 ≤ wt96 x := by unfold wt96; omega
                       omega
    have := h1 l
    simp only [List.flatten_cons, List.length_append, List.length_cons, List.map_cons, List.sum_cons]
    omega
theorem ExprAll_pure : ∀ (l0 : List (List (S96))) (l1 : List (Int)), ((∀ z2 ∈ l0, ((∀ z3 ∈ z2, ok96 z3) ∧ z2.length * 16 ≤ 140737488351232)) ∧ l0.length * 24 ≤ 140737488351232) → ((∀ z2 ∈ l1, (Lit.int .i64 z2).wf = true) ∧ l1.length * 8 ≤ 140737488351232) → ((l0.map fun z => ((z.map fun z => wt96 z).sum + 1)).sum + 1) + ((l1.map fun z => 1).sum + 1) ≤ 1048576 → ∃ k, gnomonlaw08_ExprAll.f k l0 l1 = some true := by
  intro ls vars hl hvs hbulk
  have hv := ints_of_wf2 hvs.1
  have hb := bulk_of ls
  have h := law_loop (ls := ls) (vars := vars) (fun l hl' => ops_of_ok2 (hl.1 l hl').1) (by omega) (by omega) (by omega) hv ls.length 0 [] (by omega) (Nat.zero_le _) rfl (fun j l b e1 e2 => by simp at e2)
  obtain ⟨K, hK⟩ := h
  refine ⟨K, ?_⟩
  rw [gnomonlaw08_ExprAll.f]
  exact hK K (Nat.le_refl _)
end Go.Proofs.YtjoefhhfppijaaaDoor.PAll
