/-
  TextJoins: for every string of at most 2,100 bytes its lines, joined by line feeds, are the string without the line feed at its end; no line has a line feed; each begins where Starts says. No condition beside the given statement's own.
-/
import Derived.Test.YtkklemjidocngaaPureLines
namespace Go.Proofs.Ytkklemjidocngaa.Pure
open Go.RowKit Go.Proofs.Ytkklemjidocngaa.PAll Go.Proofs.YtkklemjidocngaaW.PrintWords Go.Proofs.YtkklemjidocngaaW.PrintLast

theorem ba_ext {a b : ByteArray} (h : a.data.toList = b.data.toList) : a = b := by
  obtain ⟨⟨l⟩⟩ := a
  obtain ⟨⟨m⟩⟩ := b
  simp at h
  rw [h]
theorem ex_data (s : ByteArray) (a b : Nat) : (s.extract a b).data.toList = (s.data.toList.drop a).take (b - a) := Lib.extract_data s a b
theorem ap_data (a b : ByteArray) : (a ++ b).data.toList = a.data.toList ++ b.data.toList := by
  obtain ⟨⟨l⟩⟩ := a
  obtain ⟨⟨m⟩⟩ := b
  rfl
theorem ex_size (s : ByteArray) (a b : Nat) (h1 : a ≤ b) (h2 : b ≤ s.size) : (s.extract a b).size = b - a := by
  rw [← data_length, ex_data, List.length_take, List.length_drop, data_length]; omega
theorem ex_whole (s : ByteArray) : s.extract 0 s.size = s := by
  apply ba_ext
  rw [ex_data, List.drop_zero, List.take_of_length_le (by rw [data_length]; omega)]
theorem ex_join (s : ByteArray) (a b : Nat) (h1 : a ≤ b) : s.extract 0 a ++ s.extract a b = s.extract 0 b := by
  apply ba_ext
  rw [ap_data, ex_data, ex_data, ex_data, List.drop_zero, Nat.sub_zero, Nat.sub_zero]
  have e : b = a + (b - a) := by omega
  conv => rhs; rw [e, List.take_add]
theorem ex_nl (s : ByteArray) (b : Nat) (h : b < s.size) (hb : bt s b = 10) : s.extract 0 b ++ (⟨#[10]⟩ : ByteArray) = s.extract 0 (b + 1) := by
  apply ba_ext
  have hl : b < s.data.toList.length := by rw [data_length]; exact h
  rw [ap_data, ex_data, ex_data, List.drop_zero, Nat.sub_zero, Nat.sub_zero, List.take_succ_eq_append_getElem hl]
  rw [bt_nat s b h] at hb
  have e : s.data.toList[b] = 10 := by
    apply UInt8.toNat_inj.1
    have : (10 : UInt8).toNat = 10 := rfl
    omega
  rw [e]
theorem bt_ex (s : ByteArray) (a b j : Nat) (h1 : a ≤ b) (h2 : b ≤ s.size) (h3 : j < b - a) : bt (s.extract a b) (j : Int) = bt s ((a + j : Nat) : Int) := by
  rw [bt_nat _ j (by rw [ex_size s a b h1 h2]; exact h3), bt_nat s (a + j) (by omega)]
  congr 2
  have h4 : j < ((s.data.toList.drop a).take (b - a)).length := by rw [List.length_take, List.length_drop, data_length]; omega
  have e : ∀ (l m : List UInt8) (hl : j < l.length) (hm : j < m.length), l = m → l[j] = m[j] := by intro l m _ _ h; subst h; rfl
  rw [e _ _ (by rw [ex_data]; exact h4) h4 (ex_data s a b)]
  simp
theorem rd_li (s : ByteArray) (i : Nat) (x : Nat × Nat) (h : (lns s)[i]? = some x) : rdOf ByteArray.empty (linesS s) (i : Int) = s.extract x.1 x.2 := by
  unfold rdOf linesS
  simp [List.getD_eq_getElem?_getD, h]
/-- the inner loop: a line has no line feed -/
theorem joins_l1 (s : ByteArray) (hs : s.size ≤ 1099511627776) (i : Nat) (x : Nat × Nat) (hx : (lns s)[i]? = some x) (R : Bool)
    (H : Ev (fun k => codesearchlaw01_TextJoins.l0 k s (linesS s) (stS s) (s.extract 0 x.2) ((i + 1 : Nat) : Int)) R) : ∀ (d j : Nat), j + d = x.2 - x.1 →
    Ev (fun k => codesearchlaw01_TextJoins.l1 k s (linesS s) (stS s) (s.extract 0 x.1) (i : Int) (j : Int)) R := by
  have hl := line_at s i x hx
  have hn := lns_len s hs
  have hlt : i < (lns s).length := (List.getElem?_eq_some_iff.1 hx).1
  have z0 : 0 ≤ (i : Int) := by omega
  have z1 : (i : Int) < ((linesS s).length : Int) := by rw [linesS_len]; omega
  have hsz := ex_size s x.1 x.2 hl.le hl.top
  have hle := hl.le
  have htop := hl.top
  intro d
  induction d with
  | zero =>
    intro j hj
    refine Ev.step (fun k => by rw [codesearchlaw01_TextJoins.l1]) ?_
    have h1 : ¬ ((j : Int) < ((s.extract x.1 x.2).size : Int)) := by rw [hsz]; omega
    have h2 : (s.extract 0 x.1).size + (s.extract x.1 x.2).size ≤ 9223372036854775807 := by rw [hsz, ex_size s 0 x.1 (Nat.zero_le _) (by omega)]; omega
    simp only [if_pos z0, if_pos z1, rd_li s i x hx, if_neg h1, if_pos h2, up i (by omega), ex_join s x.1 x.2 hle]
    exact H
  | succ d ih =>
    intro j hj
    refine Ev.step (fun k => by rw [codesearchlaw01_TextJoins.l1]) ?_
    have h1 : (j : Int) < ((s.extract x.1 x.2).size : Int) := by rw [hsz]; omega
    have h0 : 0 ≤ (j : Int) := by omega
    have h2 : ¬ (bt (s.extract x.1 x.2) (j : Int) = 10) := by
      rw [bt_ex s x.1 x.2 j hle htop (by omega)]
      exact hl.no _ (by omega) (by omega)
    simp only [if_pos z0, if_pos z1, rd_li s i x hx, if_pos h1, if_pos h0, if_neg h2, up j (by omega)]
    exact ih (j + 1) (by omega)
theorem len_zero (s : ByteArray) (h : (lns s) = []) : s.size = 0 := by
  have hc := chain_lns s
  rw [h] at hc
  exact hc.symm
theorem joins_end (s : ByteArray) (hs : s.size ≤ 1099511627776) (b : Nat) (hb : lns s = [] ∧ b = 0 ∨ (∃ x, x ∈ lns s ∧ x.2 = b ∧ LineAt s x.1 x.2) ∧ (b = s.size ∨ b + 1 = s.size)) :
    Ev (fun k => codesearchlaw01_TextJoins.l0 k s (linesS s) (stS s) (s.extract 0 b) ((lns s).length : Int)) true := by
  refine Ev.step (fun k => by rw [codesearchlaw01_TextJoins.l0]) ?_
  have h1 : ¬ (((lns s).length : Int) < ((linesS s).length : Int)) := by rw [linesS_len]; omega
  simp only [if_neg h1]
  rcases hb with ⟨h2, h3⟩ | ⟨⟨x, hx, h4, h5⟩, h6⟩
  · have hz := len_zero s h2
    have hz' : ¬ ((s.size : Int) > 0) := by omega
    have e : s.extract 0 b = s := by rw [h3]; conv => rhs; rw [← ex_whole s]
                                     rw [hz]
    have e2 : ((linesS s).length : Int) = 0 := by rw [linesS_len, h2]; rfl
    have e3 : (s.size : Int) = 0 := by omega
    simp only [if_neg hz']
    simp only [e, if_true, e2, e3, beq_self_eq_true]
    exact Ev.now _
  · subst h4
    have hle := h5.le
    have htop := h5.top
    have hpos : 0 < s.size := by rcases h5.fin with ⟨f1, _⟩ | ⟨f1, f2⟩ <;> omega
    have hp : (s.size : Int) > 0 := by omega
    have ew : wrap64 ((s.size : Int) - 1) = ((s.size - 1 : Nat) : Int) := by rw [wr _ (by omega) (by omega)]; omega
    have g0 : 0 ≤ ((s.size - 1 : Nat) : Int) := by omega
    have g1 : ((s.size - 1 : Nat) : Int) < (s.size : Int) := by omega
    have g2 : ((s.size - 1 : Nat) : Int) ≤ (s.size : Int) := by omega
    have hlen : 0 < (lns s).length := List.length_pos_of_mem hx
    have e2 : (((s.size : Int) == 0) == (((linesS s).length : Int) == 0)) = true := by
      have a1 : ((s.size : Int) == 0) = false := by rw [beq_eq_false_iff_ne]; omega
      have a2 : (((linesS s).length : Int) == 0) = false := by rw [linesS_len, beq_eq_false_iff_ne]; omega
      rw [a1, a2]; rfl
    simp only [if_pos hp, ew, if_pos g0, if_pos g1, if_pos g2, e2, Int.toNat_natCast]
    rcases h5.fin with ⟨f1, f2⟩ | ⟨f1, f2⟩
    · have e3 : s.size - 1 = x.2 := by rcases h6 with h6 | h6 <;> omega
      have q : bt s ((s.size - 1 : Nat) : Int) = 10 := by rw [e3]; exact f2
      simp only [if_pos q]
      simp only [e3, if_true]
      exact Ev.now _
    · have q : ¬ (bt s ((s.size - 1 : Nat) : Int) = 10) := h5.no (s.size - 1) (by omega) (by omega)
      have e3 : s.extract 0 x.2 = s := by rw [f1]; exact ex_whole s
      simp only [if_neg q, e3, if_true]
      exact Ev.now _
theorem joins_step (s : ByteArray) (hs : s.size ≤ 1099511627776) (r done : List (Nat × Nat)) (x : Nat × Nat) (h : lns s = done ++ x :: r) (hc : Chain s x.1 (x :: r))
    (hd : done = [] ∧ x.1 = 0 ∨ done ≠ [] ∧ 0 < x.1 ∧ bt s ((x.1 - 1 : Nat) : Int) = 10)
    (next : ∀ y r', r = y :: r' → Chain s y.1 (y :: r') → (done ++ [x] = [] ∧ y.1 = 0 ∨ done ++ [x] ≠ [] ∧ 0 < y.1 ∧ bt s ((y.1 - 1 : Nat) : Int) = 10) → Ev (fun k => codesearchlaw01_TextJoins.l0 k s (linesS s) (stS s) (s.extract 0 (y.1 - 1)) ((done ++ [x]).length : Int)) true) :
    Ev (fun k => codesearchlaw01_TextJoins.l0 k s (linesS s) (stS s) (s.extract 0 (x.1 - 1)) (done.length : Int)) true := by
  have hx : (lns s)[done.length]? = some x := by rw [h]; simp
  have hl := line_at s _ x hx
  have hn := lns_len s hs
  have hlt : done.length < (lns s).length := (List.getElem?_eq_some_iff.1 hx).1
  have hle := hl.le
  have htop := hl.top
  have z0 : 0 ≤ (done.length : Int) := by omega
  have z1 : (done.length : Int) < ((stS s).length : Int) := by rw [stS_len]; omega
  have z2 : (done.length : Int) < ((linesS s).length : Int) := by rw [linesS_len]; omega
  have hsz : (s.extract 0 x.1).size = x.1 := by rw [ex_size s 0 x.1 (Nat.zero_le _) (by omega)]; omega
  -- behind this line
  have rest : Ev (fun k => codesearchlaw01_TextJoins.l0 k s (linesS s) (stS s) (s.extract 0 x.2) ((done.length + 1 : Nat) : Int)) true := by
    obtain ⟨_, _, _, _, h5⟩ := hc
    cases r with
    | nil =>
      have e : (lns s).length = done.length + 1 := by rw [h]; simp
      have := joins_end s hs x.2 (.inr ⟨⟨x, by rw [h]; simp, rfl, hl⟩, by
        rcases h5 with ⟨h6, h7, h8⟩ | ⟨h6, _, _⟩
        · exact .inr h8
        · exact .inl h6⟩)
      rw [e] at this
      exact this
    | cons y r' =>
      rcases h5 with ⟨h6, h7, h8⟩ | ⟨_, _, h8⟩
      · have hy : y.1 = x.2 + 1 := h8.1
        have := next y r' rfl (by rw [hy]; exact h8) (.inr ⟨by simp, by omega, by rw [hy]; simpa using h7⟩)
        rw [hy, Nat.add_sub_cancel, List.length_append, List.length_cons, List.length_nil, Nat.zero_add] at this
        exact this
      · cases h8
  have inner := joins_l1 s hs done.length x hx true rest (x.2 - x.1) 0 (by omega)
  have j1 : Ev (fun k => codesearchlaw01_TextJoins.j1 k s (linesS s) (stS s) (s.extract 0 x.1) (done.length : Int)) true := by
    refine Ev.step (fun k => by rw [codesearchlaw01_TextJoins.j1]) ?_
    have q : ((x.1 : Nat) : Int) = ((s.extract 0 x.1).size : Int) := by rw [hsz]
    simp only [if_pos z0, if_pos z1, rd_st s _ x hx, if_pos q]
    exact inner
  refine Ev.step (fun k => by rw [codesearchlaw01_TextJoins.l0]) ?_
  simp only [if_pos z2]
  rcases hd with ⟨h6, h7⟩ | ⟨h6, h7, h8⟩
  · have e : ¬ ((done.length : Int) > 0) := by rw [h6]; simp
    simp only [if_neg e]
    rw [h7] at j1 ⊢
    exact j1
  · have e : (done.length : Int) > 0 := by have := List.length_pos_iff.2 h6; omega
    have e2 : (s.extract 0 (x.1 - 1)).size + 1 ≤ 9223372036854775807 := by rw [ex_size s 0 (x.1 - 1) (Nat.zero_le _) (by omega)]; omega
    simp only [if_pos e, if_pos e2, ex_nl s (x.1 - 1) (by omega) h8]
    rw [show x.1 - 1 + 1 = x.1 by omega]
    exact j1
/-- from a line on, all before it being joined -/
theorem joins_go (s : ByteArray) (hs : s.size ≤ 1099511627776) : ∀ (r done : List (Nat × Nat)) (x : Nat × Nat), lns s = done ++ x :: r → Chain s x.1 (x :: r) →
    (done = [] ∧ x.1 = 0 ∨ done ≠ [] ∧ 0 < x.1 ∧ bt s ((x.1 - 1 : Nat) : Int) = 10) → Ev (fun k => codesearchlaw01_TextJoins.l0 k s (linesS s) (stS s) (s.extract 0 (x.1 - 1)) (done.length : Int)) true := by
  intro r
  induction r with
  | nil =>
    intro done x h hc hd
    exact joins_step s hs [] done x h hc hd (fun y r' hr => by cases hr)
  | cons y r ih =>
    intro done x h hc hd
    refine joins_step s hs (y :: r) done x h hc hd (fun y' r' hr hc' hd' => ?_)
    injection hr with h1 h2
    subst h1; subst h2
    exact ih (done ++ [x]) y (by rw [h]; simp) hc' hd'
theorem TextJoins : codesearchlaw01_TextJoins.Pure := by
  intro s _
  refine Ev.rounds ?_
  unfold codesearchlaw01_TextJoins.f
  refine Ev.bind alive_ev ?_
  simp only [if_true]
  by_cases h : (s.size : Int) > 2100
  · simp only [if_pos h]; exact Ev.now _
  · have hs : s.size ≤ 1099511627776 := by omega
    have h1 : ((linesS s).length : Int) = ((stS s).length : Int) := by rw [linesS_len, stS_len]
    simp only [if_neg h, lines_eq s hs, starts_eq s hs, Option.bind_some, if_pos h1]
    have hc := chain_lns s
    have e : (⟨#[]⟩ : ByteArray) = s.extract 0 0 := by apply ba_ext; rw [ex_data]; simp
    cases hL : lns s with
    | nil =>
      have := joins_end s hs 0 (.inl ⟨hL, rfl⟩)
      rw [hL] at this
      rw [e]
      exact this
    | cons x r =>
      rw [hL] at hc
      have h0 : x.1 = 0 := hc.1
      have := joins_go s hs r [] x hL (by rw [h0]; exact hc) (.inl ⟨rfl, h0⟩)
      rw [h0] at this
      rw [e]
      exact this

end Go.Proofs.Ytkklemjidocngaa.Pure
