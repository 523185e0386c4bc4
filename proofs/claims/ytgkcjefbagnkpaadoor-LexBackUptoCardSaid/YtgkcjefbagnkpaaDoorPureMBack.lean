import Derived.Test.YtgkcjefbagnkpaaDoorPureM
import Derived.Test.YtgkcjefbagnkpaaDoorPureG
import Derived.Test.YtgkcjefbagnkpaaDoorPLexx11
import Derived.Test.YtgkcjefbagnkpaaDoorPLexx13
namespace Go.Proofs.YtgkcjefbagnkpaaDoor.PLex
set_option linter.unusedVariables false
set_option linter.unusedSimpArgs false
open Go Go.RowKit Go.Proofs.YtgkcjefbagnkpaaDoorW.PrintWords Go.Proofs.YtgkcjefbagnkpaaDoorW.PrintMore

def txs (l : List Tk) : List (List UInt8) := (tx (l.map conv)).map (·.data.toList)
theorem txs_end {r : Tok} (hk : r.1 = 0) : txs [tk r] = [] := by
  unfold txs
  rw [List.map_cons, tx_cons, if_neg]
  · rfl
  · simp [keep, conv, tk, hk]
theorem txs_cons {r : Tok} (hk : r.1 ≠ 0) (hz : r.2.1.size ≠ 0) (l : List Tk) : txs (tk r :: l) = r.2.1.data.toList :: txs l := by
  unfold txs
  rw [List.map_cons, tx_cons, if_pos]
  · rfl
  · have : r.2.1.toList ≠ [] := by
      rw [ByteArray.toList_eq]
      intro e
      have := data_length r.2.1
      rw [e] at this
      exact hz this.symm
    simp [keep, conv, tk, hk, this]
theorem back_chain {s : ByteArray} (hS : s.size ≤ 140737488351232) {p : Nat} {l : List Tk} (h : Chain s p l) : (∀ x, l.getLast? = some x → x.2.2 = 0) → ∀ (T : ByteArray) (p' : Nat), T.size ≤ 140737488351232 → p' ≤ T.size →
    (T.data.toList.drop p' = Lib.join (txs l) [32] ∨ T.data.toList.drop p' = Lib.joinTail [32] (txs l)) →
    ∃ l', Ev (fun k => lex_All.toks k T (p' : Int)) l' ∧ Same l l' ∧ ∀ x, l'.getLast? = some x → x.2.2 = 0 := by
  induction h with
  | stop p q r h hd =>
    intro hx T p' hT hp' hw
    have he : r.2.2.2.2.2 = 0 := hx (tk r) rfl
    have hk : r.1 = 0 := hd.resolve_left (fun h => h he)
    rw [txs_end hk] at hw
    have hw' : T.data.toList.drop p' = [] := by
      rcases hw with hw | hw
      · rw [hw, Lib.join_nil]
      · rw [hw]; rfl
    have hl := congrArg List.length hw'
    rw [List.length_drop, data_length, List.length_nil] at hl
    obtain ⟨q2, r2, n⟩ := nx hT hp'
    have h1 := n.le
    have h2 := n.le2
    have hn := n
    have ht := n.tok
    cases ht with
    | end_ e =>
      obtain ⟨_, hr⟩ := end_tok h.tok he hk
      refine ⟨_, toks_stop n (.inr rfl), .cons _ _ _ _ ?_ ?_ ?_ .nil, fun x hx => ?_⟩
      · rw [hr]; rfl
      · rw [hr]; rfl
      · rw [hr]; rfl
      · obtain rfl := Option.some.inj hx; rfl
    | word m a => omega
    | number m v a => omega
    | sign a => omega
  | go p q n r l h he hk hn hqn hns hc ih =>
    intro hx T p' hT hp' hw
    obtain ⟨hq, m, m1, m2, m3, m4, m5⟩ := h.tok.step he hk
    have hsz : r.2.1.size = m := by rw [m3]; have := piece_size (s := s) (p := q) m2; omega
    rw [txs_cons hk (by omega)] at hw
    have hfb := first_byte h.tok hq
    -- where the token stands
    obtain ⟨q', hq', hdr, hsk⟩ : ∃ q' : Nat, q' ≤ T.size ∧ T.data.toList.drop q' = r.2.1.data.toList ++ Lib.joinTail [32] (txs l) ∧ (cls (bt T (q' : Int)) ≠ 1 ∧ cls (bt T (q' : Int)) ≠ 4 → Ev (fun k => lex_skip.l0 k T (p' : Int)) (q' : Int)) := by
      rcases hw with hw | hw
      · rw [Lib.join_cons] at hw
        exact ⟨p', hp', hw, fun hh => skip_here hp' (fun _ => hh)⟩
      · have hw2 : T.data.toList.drop p' = 32 :: (r.2.1.data.toList ++ Lib.joinTail [32] (txs l)) := by rw [hw]; simp [Lib.joinTail]
        have hlen := congrArg List.length hw2
        rw [List.length_drop, data_length, List.length_cons] at hlen
        have h32 : T.data.toList[p']? = some 32 := by
          have := congrArg (fun x => x[0]?) hw2
          simpa [List.getElem?_drop] using this
        obtain ⟨ha, hb⟩ := bt_of_byte h32
        refine ⟨p' + 1, by omega, ?_, fun hh => skip_blank hT ha (by rw [hb]; decide) (skip_here (by omega) (fun _ => hh))⟩
        rw [← List.drop_drop, hw2]
        rfl
    have hlen := congrArg List.length hdr
    rw [List.length_drop, data_length, List.length_append, data_length, hsz] at hlen
    have hgetT : ∀ j : Nat, T.data.toList[q' + j]? = (r.2.1.data.toList ++ Lib.joinTail [32] (txs l))[j]? := fun j => by rw [← hdr, List.getElem?_drop]
    have hb : ∀ j, j < m → bt T ((q' + j : Nat) : Int) = bt s ((q + j : Nat) : Int) := by
      intro j hj
      refine bt_of_get ?_ (by omega) (by omega)
      rw [hgetT, List.getElem?_append_left (by rw [data_length]; omega), m3, piece_get s q (q + m) j (by omega) m2]
    have h0 : bt T (q' : Int) = bt s (q : Int) := hb 0 (by omega)
    have hsk' := hsk (by rw [h0]; exact hfb)
    have hst : q' + m = T.size ∨ (q' + m < T.size ∧ cls (bt T ((q' + m : Nat) : Int)) = 1) ∨ (q' + m < T.size ∧ q + m < s.size ∧ bt T ((q' + m : Nat) : Int) = bt s ((q + m : Nat) : Int)) := by
      cases ht : txs l with
      | nil => left; rw [ht] at hlen; simp only [Lib.joinTail, List.map_nil, List.flatten_nil, List.length_nil] at hlen; omega
      | cons y ys =>
        right; left
        have h32 : T.data.toList[q' + m]? = some 32 := by
          rw [hgetT, List.getElem?_append_right (by rw [data_length]; omega), data_length, hsz, Nat.sub_self, ht]
          rfl
        obtain ⟨ha, hbb⟩ := bt_of_byte h32
        exact ⟨ha, by rw [hbb]; decide⟩
    obtain ⟨r', n', e1, e2, e3, e4, e5, e6⟩ := local_tok hS hT h he hk hsz hp' hsk' hb (by omega) hst
    obtain ⟨l', a, b, c⟩ := ih (fun x hx2 => hx x (by obtain ⟨y, l', rfl⟩ := List.exists_cons_of_ne_nil hc.ne; rw [List.getLast?_cons_cons]; exact hx2)) T (q' + m) hT (by omega) (.inr (by
      rw [← List.drop_drop, hdr, List.drop_append_of_le_length (by rw [data_length]; omega), List.drop_eq_nil_of_le (by rw [data_length]; omega), List.nil_append]))
    refine ⟨tk r' :: l', toks_cons n' e6 (by rw [e1]; exact hk) e5 a, .cons _ _ _ _ e1 e2 e3 b, fun x hx2 => c x ?_⟩
    cases b with
    | nil => exact absurd rfl hc.ne
    | cons x x' l l' => rw [List.getLast?_cons_cons] at hx2; exact hx2
theorem chain_tot {s : ByteArray} {p : Nat} {l : List Tk} (h : Chain s p l) : (∀ x, l.getLast? = some x → x.2.2 = 0) → tot (l.map conv) ≤ 5 * (s.size - p) + 4 := by
  induction h with
  | stop p q r h hd =>
    intro hx
    have he : r.2.2.2.2.2 = 0 := hx (tk r) rfl
    have hk : r.1 = 0 := hd.resolve_left (fun h => h he)
    obtain ⟨_, hr⟩ := end_tok h.tok he hk
    rw [hr]
    have : tot ([tk (0, ⟨#[]⟩, 0, (q : Int), (q : Int), 0)].map conv) = 4 := rfl
    omega
  | go p q n r l h he hk hn hqn hns hc ih =>
    intro hx
    obtain ⟨hq, m, m1, m2, m3, m4, m5⟩ := h.tok.step he hk
    have hsz : r.2.1.size = m := by rw [m3]; have := piece_size (s := s) (p := q) m2; omega
    have hi := ih (fun x hx2 => hx x (by obtain ⟨y, l', rfl⟩ := List.exists_cons_of_ne_nil hc.ne; rw [List.getLast?_cons_cons]; exact hx2))
    have hle := h.le
    rw [List.map_cons, tot_cons]
    have : wt29 (conv (tk r)) = 4 + m := by
      show 1 + (r.2.1.size + 1) + 1 + 1 = _
      omega
    omega
theorem join_lexW (l : List S29) (hl : l.length ≤ 1099511627776) (hw : tot l ≤ 1099511627776) (hg : ∀ x ∈ l, 0 ≤ x.f0 ∧ x.f0 ≤ 3) : ∀ n i : Nat, l.length - i ≤ n → i ≤ l.length → Ev (fun k => lex_Join.l0 k (tx (l.take i)) (l.map conv24) (l.length : Int) (i : Int)) (J (tx l)) := by
  intro n
  have fin : Ev (fun k => lex_Join.l0 k (tx (l.take l.length)) (l.map conv24) (l.length : Int) ((l.length : Nat) : Int)) (J (tx l)) := by
    refine Ev.step (fun k => ?_) (Ev.now _)
    rw [List.take_length, lex_Join.l0, if_neg (by omega), strings_Join.f, if_pos, Option.bind_some]
    · rfl
    · have h1 := (tail_len l).2
      have h2 := J_len l
      exact ⟨by omega, by show (Lib.join _ [32]).length ≤ _; omega⟩
  induction n with
  | zero =>
    intro i h1 h2
    obtain rfl : i = l.length := by omega
    exact fin
  | succ n ih =>
    intro i h1 h2
    by_cases hi : i < l.length
    · refine Ev.step (fun k => ?_) (ih (i + 1) (by omega) (by omega))
      have hgi := hg _ (List.getElem_mem hi)
      rw [lex_Join.l0, if_pos (by omega), if_pos (by omega), if_pos (by rw [List.length_map]; omega), rd24_get _ i (by rw [List.length_map]; omega), List.getElem_map, wself (n := (i : Int) + 1) (by omega) (by omega), tx_take l i hi]
      have hf : (conv24 l[i]).f0 = l[i].f0 := by show l[i].f0 % 256 = _; omega
      rw [hf]
      show (if l[i].f0 = 0 then _ else if l[i].f1.toList = [] then _ else _) = _
      by_cases h3 : l[i].f0 = 0
      · rw [if_pos h3, if_neg (by simp [keep, h3])]; rfl
      · rw [if_neg h3]
        by_cases h4 : l[i].f1.toList = []
        · rw [if_pos h4, if_neg (by simp [keep, h4])]; rfl
        · have h5 := (tail_len (l.take i)).2
          have h6 := tot_take l i
          rw [if_neg h4, if_pos (by omega), if_pos (by simp [keep, h3, h4])]
          rfl
    · obtain rfl : i = l.length := by omega
      exact fin
theorem back_loop {l l' : List Tk} (h : Same l l') (hl : l.length ≤ 140737488351232) : ∀ n i : Nat, l.length - i ≤ n → i ≤ l.length → Ev (fun k => gnomonlaw09_LexBack.l0 k (l.map (·.1)) (l'.map (·.1)) (i : Int)) true := by
  intro n
  have hln := h.len
  have fin : Ev (fun k => gnomonlaw09_LexBack.l0 k (l.map (·.1)) (l'.map (·.1)) ((l.length : Nat) : Int)) true :=
    Ev.step (fun k => by (rw [gnomonlaw09_LexBack.l0, if_neg (by rw [List.length_map]; omega)]; try rfl)) (Ev.bind live_ev (Ev.now _))
  induction n with
  | zero => intro i h1 h2; obtain rfl : i = l.length := by omega
            exact fin
  | succ n ih =>
    intro i h1 h2
    by_cases hi : i < l.length
    · refine Ev.step (fun k => ?_) (ih (i + 1) (by omega) (by omega))
      obtain ⟨a, b, c⟩ := h.get i hi (by omega)
      rw [gnomonlaw09_LexBack.l0, if_pos (by rw [List.length_map]; omega), if_pos (by omega), if_pos (by rw [List.length_map]; omega), rd24_get _ i (by rw [List.length_map]; omega), rd24_get _ i (by rw [List.length_map]; omega), List.getElem_map, List.getElem_map,
        if_pos a.symm, if_pos (by rw [b]), if_pos c.symm, w1 (by omega)]
    · obtain rfl : i = l.length := by omega
      exact fin
theorem LexBack_pure : ∀ (a0 : ByteArray), a0.size ≤ 140737488351232 → (a0.size + 1) ≤ 1048576 → ∃ k, gnomonlaw09_LexBack.f k a0 = some true := by
  intro s h0 h1
  obtain ⟨l, hc, hl, a⟩ := all_one (s := s) (by omega)
  refine Ev.rounds (g := fun k => gnomonlaw09_LexBack.f k s) ?_
  refine Ev.bind a ?_
  obtain ⟨x, hx⟩ : ∃ x, l.getLast? = some x := by
    cases he : l.getLast? with
    | none => exact absurd (List.getLast?_eq_none_iff.1 he) hc.ne
    | some x => exact ⟨x, rfl⟩
  by_cases he : x.2.2 = 0
  · have hlast : ∀ y, l.getLast? = some y → y.2.2 = 0 := fun y hy => by rw [hx] at hy; obtain rfl := Option.some.inj hy; exact he
    have ho : lexOut l = (l.map (·.1), 0, 0) := by unfold lexOut; rw [hx]; dsimp only; rw [if_pos he]
    rw [ho]
    have ht := chain_tot hc hlast
    have hj : Ev (fun k => lex_Join.f k (l.map (·.1))) (J (tx (l.map conv))) := by
      have hkinds := hc.kinds
      have hg : ∀ x ∈ l.map conv, 0 ≤ x.f0 ∧ x.f0 ≤ 3 := by
        intro y hy
        obtain ⟨z, hz, rfl⟩ := List.mem_map.1 hy
        exact hkinds z hz
      have hm : (l.map conv).map conv24 = l.map (·.1) := by
        rw [List.map_map]
        refine List.map_congr_left (fun z hz => ?_)
        have := hkinds z hz
        show (⟨z.1.f0 % 256, z.1.f1, z.1.f2, z.1.f3⟩ : S24) = z.1
        rw [show z.1.f0 % 256 = z.1.f0 by omega]
      have := join_lexW (l.map conv) (by rw [List.length_map]; omega) (by omega) hg (l.map conv).length 0 (by omega) (by omega)
      rw [hm] at this
      refine Ev.congr (fun k => ?_) this
      rw [lex_Join.f, List.length_map, List.length_map]
      rfl
    have hT : (J (tx (l.map conv))).size ≤ 140737488351232 := by
      rw [← data_length, J_data]
      have := J_len (l.map conv)
      omega
    obtain ⟨l', a', b', c'⟩ := back_chain (by omega) hc hlast (J (tx (l.map conv))) 0 hT (Nat.zero_le _) (.inl (by rw [List.drop_zero, J_data]; rfl))
    have hln := b'.len
    have hne : l' ≠ [] := by
      intro e
      rw [e] at hln
      exact hc.ne (List.eq_nil_of_length_eq_zero hln.symm)
    have ha := all_lex (s := J (tx (l.map conv))) a' hne (by omega)
    have ho' : lexOut l' = (l'.map (·.1), 0, 0) := by
      unfold lexOut
      cases hx' : l'.getLast? with
      | none => exact absurd (List.getLast?_eq_none_iff.1 hx') hne
      | some y => dsimp only; rw [if_pos (c' y hx')]
    rw [ho'] at ha
    refine Ev.congr (fun k => by (rw [if_pos rfl]; try rfl)) (Ev.bind hj (Ev.bind ha ?_))
    refine Ev.congr (fun k => ?_) (Ev.step (g := fun k => gnomonlaw09_LexBack.j0 k (l.map (·.1)) (l'.map (·.1)) false) (fun k => by (rw [gnomonlaw09_LexBack.j0, if_neg (by decide)]; rfl)) (back_loop b' (by omega) l.length 0 (by omega) (by omega)))
    rw [if_pos rfl]
    congr 1
    simp [hln]
  · have ho : lexOut l = ([], x.2.2, x.2.1) := by unfold lexOut; rw [hx]; dsimp only; rw [if_neg he]
    rw [ho]
    refine Ev.congr (fun k => by (rw [if_neg he]; try rfl)) (Ev.bind live_ev ?_)
    exact Ev.congr (fun k => by rw [if_pos rfl]; rfl) (Ev.now _)
end Go.Proofs.YtgkcjefbagnkpaaDoor.PLex
