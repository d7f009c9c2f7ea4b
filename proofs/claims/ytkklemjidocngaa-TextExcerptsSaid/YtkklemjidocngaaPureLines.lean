/-
  Plain facts on lines: the lines of a text are a chain; the reference's Starts, stop and Lines come to them.
-/
import Derived.Test.YtkklemjidocngaaPureLib
namespace Go.Proofs.Ytkklemjidocngaa.Pure
open Go.RowKit Go.Proofs.Ytkklemjidocngaa.PAll Go.Proofs.YtkklemjidocngaaW.PrintWords Go.Proofs.YtkklemjidocngaaW.PrintLast

theorem bt_ten (s : ByteArray) (p : Nat) (c : UInt8) (r : List UInt8) (h : c :: r = s.data.toList.drop p) : p < s.size ∧ r = s.data.toList.drop (p + 1) ∧ (c = 10 ↔ bt s (p : Int) = 10) := by
  have hp : p < s.size := by
    rcases Nat.lt_or_ge p s.size with h1 | h1
    · exact h1
    · rw [List.drop_of_length_le (by rw [data_length]; exact h1)] at h; cases h
  have hp' : p < s.data.toList.length := by rw [data_length]; exact hp
  rw [List.drop_eq_getElem_cons hp'] at h
  injection h with h1 h2
  refine ⟨hp, h2, ?_⟩
  rw [bt_nat s p hp, h1]
  constructor
  · intro e; rw [e]; rfl
  · intro e
    apply UInt8.toNat_inj.1
    have : (10 : UInt8).toNat = 10 := rfl
    omega
/-- consecutive lines from p to the end -/
def Chain (s : ByteArray) : Nat → List (Nat × Nat) → Prop
  | p, [] => p = s.size
  | p, x :: r => x.1 = p ∧ x.1 ≤ x.2 ∧ x.2 ≤ s.size ∧ (∀ j : Nat, x.1 ≤ j → j < x.2 → bt s j ≠ 10) ∧ ((x.2 < s.size ∧ bt s x.2 = 10 ∧ Chain s (x.2 + 1) r) ∨ (x.2 = s.size ∧ x.1 < x.2 ∧ r = []))
theorem chain_go (s : ByteArray) : ∀ (l : List UInt8) (st p : Nat), l = s.data.toList.drop p → p ≤ s.size → st ≤ p → (∀ j : Nat, st ≤ j → j < p → bt s j ≠ 10) → Chain s st (lnsGo l st p)
  | [], st, p, h, hp, hst, hn => by
    have hz : s.size ≤ p := by
      have := congrArg List.length h
      rw [List.length_drop, data_length] at this
      simp at this; omega
    rw [lnsGo_nil]
    by_cases hlt : st < p
    · rw [if_pos hlt]
      exact ⟨rfl, by simp; omega, by simp; omega, hn, .inr ⟨by simp; omega, hlt, rfl⟩⟩
    · rw [if_neg hlt]
      show st = s.size
      omega
  | c :: r, st, p, h, hp, hst, hn => by
    obtain ⟨h1, h2, h3⟩ := bt_ten s p c r h
    rw [lnsGo_cons]
    by_cases hc : c = 10
    · rw [if_pos hc]
      exact ⟨rfl, hst, by simp; omega, hn, .inl ⟨h1, h3.1 hc, chain_go s r (p + 1) (p + 1) h2 (by omega) (Nat.le_refl _) (fun j _ _ => by omega)⟩⟩
    · rw [if_neg hc]
      refine chain_go s r st (p + 1) h2 (by omega) (by omega) (fun j j1 j2 => ?_)
      by_cases e : j = p
      · subst e; exact fun h4 => hc (h3.2 h4)
      · exact hn j j1 (by omega)
theorem chain_lns (s : ByteArray) : Chain s 0 (lns s) := chain_go s _ 0 0 rfl (Nat.zero_le _) (Nat.le_refl _) (fun j _ _ => by omega)
theorem chain_le (s : ByteArray) : ∀ (L : List (Nat × Nat)) (p : Nat), Chain s p L → p ≤ s.size
  | [], p, h => by have h' : p = s.size := h; omega
  | x :: r, p, h => by obtain ⟨h1, h2, h3, _⟩ := h; omega
/-- what one line is -/
structure LineAt (s : ByteArray) (a b : Nat) : Prop where
  le : a ≤ b
  top : b ≤ s.size
  no : ∀ j : Nat, a ≤ j → j < b → bt s j ≠ 10
  fin : (b < s.size ∧ bt s b = 10) ∨ (b = s.size ∧ a < b)
theorem chain_at (s : ByteArray) : ∀ (L : List (Nat × Nat)) (p : Nat), Chain s p L → ∀ x ∈ L, LineAt s x.1 x.2
  | [], _, _, x, hx => by cases hx
  | y :: r, p, h, x, hx => by
    obtain ⟨h1, h2, h3, h4, h5⟩ := h
    rcases List.mem_cons.1 hx with rfl | hx
    · exact ⟨h2, h3, h4, h5.imp (fun h => ⟨h.1, h.2.1⟩) (fun h => ⟨h.1, h.2.1⟩)⟩
    · rcases h5 with ⟨_, _, h6⟩ | ⟨_, _, h6⟩
      · exact chain_at s r _ h6 x hx
      · subst h6; cases hx
theorem line_at (s : ByteArray) (i : Nat) (x : Nat × Nat) (h : (lns s)[i]? = some x) : LineAt s x.1 x.2 := chain_at s _ 0 (chain_lns s) x (List.mem_of_getElem? h)
/-- behind a line its line feed, if it has one -/
def lend (s : ByteArray) (b : Nat) : Nat := if b < s.size then b + 1 else s.size

/-! ### the reference's Starts -/
def stF (s : ByteArray) : Nat → Nat → List Nat
  | 0, _ => []
  | d + 1, i => if i = 0 ∨ bt s ((i - 1 : Nat) : Int) = 10 then i :: stF s d (i + 1) else stF s d (i + 1)
theorem stF_nil (s : ByteArray) (i : Nat) : stF s 0 i = [] := rfl
theorem stF_succ (s : ByteArray) (d i : Nat) : stF s (d + 1) i = if i = 0 ∨ bt s ((i - 1 : Nat) : Int) = 10 then i :: stF s d (i + 1) else stF s d (i + 1) := rfl
theorem stF_skip (s : ByteArray) (p b : Nat) (hb : b ≤ s.size) (hn : ∀ j : Nat, p ≤ j → j < b → bt s j ≠ 10) : ∀ (n q : Nat), q + n = b + 1 → p < q → q ≤ s.size → stF s (s.size - q) q = if b < s.size then stF s (s.size - (b + 1)) (b + 1) else []
  | 0, q, h, hq, hs => by
    by_cases hlt : b < s.size
    · rw [if_pos hlt, show q = b + 1 by omega]
    · rw [if_neg hlt, show s.size - q = 0 by omega]; rfl
  | n + 1, q, h, hq, hs => by
    by_cases hlt : q < s.size
    · rw [show s.size - q = (s.size - (q + 1)) + 1 by omega]
      rw [stF_succ]
      have h1 : ¬ (q = 0 ∨ bt s ((q - 1 : Nat) : Int) = 10) := by
        intro h2
        rcases h2 with h2 | h2
        · omega
        · exact hn (q - 1) (by omega) (by omega) h2
      rw [if_neg h1]
      exact stF_skip s p b hb hn n (q + 1) (by omega) (by omega) (by omega)
    · rw [show s.size - q = 0 by omega, if_neg (by omega)]; rfl
theorem stF_chain (s : ByteArray) : ∀ (L : List (Nat × Nat)) (p : Nat), Chain s p L → (p = 0 ∨ bt s ((p - 1 : Nat) : Int) = 10) → stF s (s.size - p) p = L.map Prod.fst
  | [], p, h, _ => by
    have h' : p = s.size := h
    rw [show s.size - p = 0 by omega]; rfl
  | x :: r, p, h, hp => by
    obtain ⟨h1, h2, h3, h4, h5⟩ := h
    have hlt : p < s.size := by rcases h5 with ⟨h6, _, _⟩ | ⟨h6, h7, _⟩ <;> omega
    rw [show s.size - p = (s.size - (p + 1)) + 1 by omega]
    rw [stF_succ, if_pos hp, List.map_cons, h1, stF_skip s p x.2 h3 (fun j j1 j2 => h4 j (by omega) j2) (x.2 - p) (p + 1) (by omega) (by omega) (by omega)]
    rcases h5 with ⟨h6, h7, h8⟩ | ⟨h6, h7, h8⟩
    · rw [if_pos h6, stF_chain s r (x.2 + 1) h8 (.inr (by simpa using h7))]
    · rw [if_neg (by omega), h8]; rfl
theorem startsR_go (s : ByteArray) (hs : s.size ≤ 1099511627776) : ∀ (d i : Nat) (acc : List Int), i + d = s.size → acc.length ≤ i → Ev (fun k => codesearchref01_Starts.l0 k s acc (i : Int)) (acc ++ (stF s d i).map fun n : Nat => (n : Int))
  | 0, i, acc, h, ha => by
    refine Ev.step (fun k => by rw [codesearchref01_Starts.l0]) ?_
    have h1 : ¬ ((i : Int) < (s.size : Int)) := by omega
    simp only [if_neg h1, stF_nil, List.map_nil, List.append_nil]
    exact Ev.now _
  | d + 1, i, acc, h, ha => by
    refine Ev.step (fun k => by rw [codesearchref01_Starts.l0]) ?_
    have h1 : (i : Int) < (s.size : Int) := by omega
    have h2 : acc.length < 17592186044416 := by omega
    simp only [if_pos h1, if_pos h2, up i (by omega)]
    have yes := startsR_go s hs d (i + 1) (acc ++ [(i : Int)]) (by omega) (by simp; omega)
    have no := startsR_go s hs d (i + 1) acc (by omega) (by omega)
    rw [stF_succ]
    by_cases hz : i = 0
    · have hz' : (i : Int) = 0 := by omega
      rw [if_pos (.inl hz)]
      simp only [if_pos hz']
      simpa using yes
    · have hz' : ¬ ((i : Int) = 0) := by omega
      have h3 : wrap64 ((i : Int) - 1) = ((i - 1 : Nat) : Int) := by rw [wr _ (by omega) (by omega)]; omega
      have h4 : 0 ≤ ((i - 1 : Nat) : Int) := by omega
      have h5 : ((i - 1 : Nat) : Int) < (s.size : Int) := by omega
      simp only [if_neg hz', h3, if_pos h4, if_pos h5]
      by_cases hb : bt s ((i - 1 : Nat) : Int) = 10
      · rw [if_pos (.inr hb)]
        simp only [if_pos hb]
        simpa using yes
      · rw [if_neg (fun h => h.elim hz hb)]
        simp only [if_neg hb]
        exact no
def stS (s : ByteArray) : List Int := (lns s).map fun p => (p.1 : Int)
theorem starts_eq (s : ByteArray) (hs : s.size ≤ 1099511627776) : text_Starts.f s = some (stS s) := by unfold text_Starts.f stS; rw [if_pos hs]
theorem startsR_ev (s : ByteArray) (hs : s.size ≤ 1099511627776) : Ev (fun k => codesearchref01_Starts.f k s) (stS s) := by
  unfold codesearchref01_Starts.f
  have h := startsR_go s hs s.size 0 [] (by omega) (Nat.zero_le _)
  have e := stF_chain s _ 0 (chain_lns s) (.inl rfl)
  rw [Nat.sub_zero] at e
  rw [e, List.map_map] at h
  simpa [stS, Function.comp_def] using h

/-! ### stop, Lines -/
theorem stop_go (s : ByteArray) (hs : s.size ≤ 1099511627776) (b : Nat) (hb : (b < s.size ∧ bt s b = 10) ∨ b = s.size) : ∀ (d i : Nat), i + d = b → (∀ j : Nat, i ≤ j → j < b → bt s j ≠ 10) → Ev (fun k => codesearchref01_stop.l0 k s (i : Int)) (lend s b : Int)
  | 0, i, h, hn => by
    obtain rfl : i = b := by omega
    refine Ev.step (fun k => by rw [codesearchref01_stop.l0]) ?_
    unfold lend
    rcases hb with ⟨h1, h2⟩ | h1
    · have h3 : (i : Int) < (s.size : Int) := by omega
      have h0 : 0 ≤ (i : Int) := by omega
      simp only [if_pos h3, if_pos h0, if_pos h2, up i (by omega)]
      rw [if_pos h1]
      exact Ev.now _
    · have h3 : ¬ ((i : Int) < (s.size : Int)) := by omega
      simp only [if_neg h3]
      rw [if_neg (by omega)]
      exact Ev.now _
  | d + 1, i, h, hn => by
    refine Ev.step (fun k => by rw [codesearchref01_stop.l0]) ?_
    have h3 : (i : Int) < (s.size : Int) := by rcases hb with ⟨h1, _⟩ | h1 <;> omega
    have h0 : 0 ≤ (i : Int) := by omega
    have h4 := hn i (Nat.le_refl _) (by omega)
    simp only [if_pos h3, if_pos h0, if_neg h4, up i (by omega)]
    exact stop_go s hs b hb d (i + 1) (by omega) (fun j j1 j2 => hn j (by omega) j2)
theorem stop_ev (s : ByteArray) (hs : s.size ≤ 1099511627776) (a b : Nat) (h : LineAt s a b) : Ev (fun k => codesearchref01_stop.f k s (a : Int)) (lend s b : Int) := by
  unfold codesearchref01_stop.f
  exact stop_go s hs b (h.fin.imp id And.left) (b - a) a (by have := h.le; omega) h.no
theorem rd_st (s : ByteArray) (i : Nat) (x : Nat × Nat) (h : (lns s)[i]? = some x) : rd (stS s) (i : Int) = (x.1 : Int) := by
  unfold rd stS
  simp [List.getD_eq_getElem?_getD, h]
theorem stS_len (s : ByteArray) : (stS s).length = (lns s).length := by unfold stS; rw [List.length_map]
def linesS (s : ByteArray) : List ByteArray := (lns s).map fun p => s.extract p.1 p.2
theorem linesS_len (s : ByteArray) : (linesS s).length = (lns s).length := by unfold linesS; rw [List.length_map]
theorem lines_eq (s : ByteArray) (hs : s.size ≤ 1099511627776) : text_Lines.f s = some (linesS s) := by unfold text_Lines.f linesS; rw [if_pos hs]
theorem linesR_go (s : ByteArray) (hs : s.size ≤ 1099511627776) : ∀ (r done : List (Nat × Nat)), lns s = done ++ r → Ev (fun k => codesearchref01_Lines.l0 k s (done.map fun p => s.extract p.1 p.2) (stS s) (done.length : Int)) (linesS s)
  | [], done, h => by
    refine Ev.step (fun k => by rw [codesearchref01_Lines.l0]) ?_
    have h1 : ¬ ((done.length : Int) < ((stS s).length : Int)) := by rw [stS_len, h]; simp
    simp only [if_neg h1]
    have e : linesS s = done.map fun p => s.extract p.1 p.2 := by unfold linesS; rw [h, List.append_nil]
    rw [e]
    exact Ev.now _
  | x :: r, done, h => by
    have hx : (lns s)[done.length]? = some x := by rw [h]; simp
    have hl := line_at s _ x hx
    have hn := lns_len s hs
    have hlt : done.length < (lns s).length := (List.getElem?_eq_some_iff.1 hx).1
    refine Ev.step (fun k => by rw [codesearchref01_Lines.l0]) ?_
    have h1 : (done.length : Int) < ((stS s).length : Int) := by rw [stS_len]; omega
    have h0 : 0 ≤ (done.length : Int) := by omega
    simp only [if_pos h1, if_pos h0, rd_st s _ x hx]
    refine Ev.bind (stop_ev s hs x.1 x.2 hl) ?_
    have ha : 0 ≤ (x.1 : Int) := by omega
    have hm : (done.map fun p => s.extract p.1 p.2).length < 8796093022208 := by rw [List.length_map]; omega
    have rest := linesR_go s hs r (done ++ [x]) (by rw [h]; simp)
    rw [List.map_append, List.length_append, List.map_cons, List.map_nil, List.length_cons, List.length_nil, Nat.zero_add] at rest
    have hle := hl.le
    rcases hl.fin with ⟨f1, f2⟩ | ⟨f1, f2⟩
    · have e : wrap64 ((lend s x.2 : Int) - 1) = (x.2 : Int) := by
        unfold lend
        rw [if_pos f1, wr _ (by omega) (by omega)]; omega
      have q1 : 0 ≤ (x.2 : Int) := by omega
      have q2 : (x.2 : Int) < (s.size : Int) := by omega
      have q3 : (x.1 : Int) ≤ (x.2 : Int) := by omega
      have q4 : (x.2 : Int) ≤ (s.size : Int) := by omega
      simp only [e, if_pos q1, if_pos q2, if_pos f2, if_pos ha, if_pos q3, if_pos q4, if_pos hm, up done.length (by omega), Int.toNat_natCast]
      exact rest
    · have e : wrap64 ((lend s x.2 : Int) - 1) = ((s.size - 1 : Nat) : Int) := by
        unfold lend
        rw [if_neg (by omega), wr _ (by omega) (by omega)]; omega
      have e2 : (lend s x.2 : Int) = (x.2 : Int) := by unfold lend; rw [if_neg (by omega)]; omega
      have q1 : 0 ≤ ((s.size - 1 : Nat) : Int) := by omega
      have q2 : ((s.size - 1 : Nat) : Int) < (s.size : Int) := by omega
      have q5 : ¬ (bt s ((s.size - 1 : Nat) : Int) = 10) := hl.no (s.size - 1) (by omega) (by omega)
      have q3 : (x.1 : Int) ≤ (x.2 : Int) := by omega
      have q4 : (x.2 : Int) ≤ (s.size : Int) := by omega
      simp only [e, if_pos q1, if_pos q2, if_neg q5]
      simp only [e2, if_pos ha, if_pos q3, if_pos q4, if_pos hm, up done.length (by omega), Int.toNat_natCast]
      exact rest
theorem linesR_ev (s : ByteArray) (hs : s.size ≤ 1099511627776) : Ev (fun k => codesearchref01_Lines.f k s) (linesS s) := by
  unfold codesearchref01_Lines.f
  refine Ev.bind (startsR_ev s hs) ?_
  exact linesR_go s hs (lns s) [] rfl
end Go.Proofs.Ytkklemjidocngaa.Pure
