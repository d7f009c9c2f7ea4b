/-
  Plain facts on places: which line has an offset, both packages' At and Off come to it.
-/
import Derived.Test.YtkklemjidocngaaPureLines
import Derived.Test.YtkklemjidocngaaPAllx15
namespace Go.Proofs.Ytkklemjidocngaa.Pure
open Go.RowKit Go.Proofs.Ytkklemjidocngaa.PAll Go.Proofs.YtkklemjidocngaaW.PrintWords Go.Proofs.YtkklemjidocngaaW.PrintLast

/-- line feeds before an offset -/
def nlc (s : ByteArray) : Nat → Nat
  | 0 => 0
  | i + 1 => nlc s i + if bt s (i : Int) = 10 then 1 else 0
theorem nlc_succ (s : ByteArray) (i : Nat) : nlc s (i + 1) = nlc s i + if bt s (i : Int) = 10 then 1 else 0 := rfl
theorem nlc_le (s : ByteArray) : ∀ i, nlc s i ≤ i
  | 0 => Nat.le_refl _
  | i + 1 => by have := nlc_le s i; rw [nlc_succ]; split <;> omega
theorem nlc_flat (s : ByteArray) (a : Nat) : ∀ d, (∀ j : Nat, a ≤ j → j < a + d → bt s j ≠ 10) → nlc s (a + d) = nlc s a
  | 0, _ => rfl
  | d + 1, h => by
    rw [← Nat.add_assoc, nlc_succ, if_neg (h (a + d) (by omega) (by omega)), nlc_flat s a d (fun j j1 j2 => h j j1 (by omega))]
    rfl
theorem chain_all (s : ByteArray) : ∀ (L : List (Nat × Nat)) (p : Nat), Chain s p L → (p = 0 ∨ bt s ((p - 1 : Nat) : Int) = 10) → ∀ (i : Nat) (x : Nat × Nat), L[i]? = some x →
    (x.1 = 0 ∨ bt s ((x.1 - 1 : Nat) : Int) = 10) ∧ nlc s x.1 = nlc s p + i ∧ (∀ y, L[i + 1]? = some y → y.1 = lend s x.2) ∧ (L[i + 1]? = none → lend s x.2 = s.size)
  | [], _, _, _, i, x, hx => by simp at hx
  | y :: r, p, h, hp, i, x, hx => by
    obtain ⟨h1, h2, h3, h4, h5⟩ := h
    cases i with
    | zero =>
      obtain rfl : y = x := by simpa using hx
      refine ⟨by rw [h1]; exact hp, by rw [h1]; rfl, fun z hz => ?_, fun hz => ?_⟩
      · rcases h5 with ⟨f1, f2, f3⟩ | ⟨f1, f2, f3⟩
        · cases r with
          | nil => simp at hz
          | cons u r =>
            obtain rfl : u = z := by simpa using hz
            unfold lend
            rw [if_pos f1]
            exact f3.1
        · subst f3; simp at hz
      · rcases h5 with ⟨f1, f2, f3⟩ | ⟨f1, f2, f3⟩
        · cases r with
          | nil => unfold lend; rw [if_pos f1]; exact f3
          | cons u r => simp at hz
        · unfold lend; rw [if_neg (by omega)]
    | succ i =>
      have hx' : r[i]? = some x := by simpa using hx
      rcases h5 with ⟨f1, f2, f3⟩ | ⟨f1, f2, f3⟩
      · obtain ⟨g1, g2, g3, g4⟩ := chain_all s r (y.2 + 1) f3 (.inr (by simpa using f2)) i x hx'
        refine ⟨g1, ?_, fun z hz => g3 z (by simpa using hz), fun hz => g4 (by simpa using hz)⟩
        have e := nlc_flat s y.1 (y.2 - y.1) (fun j j1 j2 => h4 j j1 (by omega))
        rw [show y.1 + (y.2 - y.1) = y.2 by omega, h1] at e
        rw [g2, nlc_succ, if_pos f2, e]
        omega
      · subst f3; simp at hx'
/-- line i, from x.1 on, has the offset off -/
structure Cov (s : ByteArray) (i : Nat) (x : Nat × Nat) (off : Nat) : Prop where
  at_ : (lns s)[i]? = some x
  from_ : x.1 ≤ off
  to_ : off < lend s x.2
theorem lend_le (s : ByteArray) (b : Nat) : lend s b ≤ s.size := by unfold lend; split <;> omega
theorem all_lines (s : ByteArray) (i : Nat) (x : Nat × Nat) (h : (lns s)[i]? = some x) :
    (x.1 = 0 ∨ bt s ((x.1 - 1 : Nat) : Int) = 10) ∧ nlc s x.1 = i ∧ (∀ y, (lns s)[i + 1]? = some y → y.1 = lend s x.2) ∧ ((lns s)[i + 1]? = none → lend s x.2 = s.size) := by
  have := chain_all s _ 0 (chain_lns s) (.inl rfl) i x h
  have e : nlc s 0 = 0 := rfl
  rw [e, Nat.zero_add] at this
  exact this
theorem Cov.no {s : ByteArray} {i : Nat} {x : Nat × Nat} {off : Nat} (h : Cov s i x off) : ∀ j : Nat, x.1 ≤ j → j < off → bt s j ≠ 10 := by
  intro j j1 j2
  have hl := line_at s i x h.at_
  have ht := h.to_
  refine hl.no j j1 ?_
  have := hl.top
  unfold lend at ht
  split at ht <;> omega
theorem Cov.nlc_eq {s : ByteArray} {i : Nat} {x : Nat × Nat} {off : Nat} (h : Cov s i x off) : nlc s off = i := by
  have e := nlc_flat s x.1 (off - x.1) (fun j j1 j2 => h.no j j1 (by have := h.from_; omega))
  rw [show x.1 + (off - x.1) = off by have := h.from_; omega] at e
  rw [e]
  exact (all_lines s i x h.at_).2.1
theorem Cov.lt {s : ByteArray} {i : Nat} {x : Nat × Nat} {off : Nat} (h : Cov s i x off) : off < s.size := Nat.lt_of_lt_of_le h.to_ (lend_le s _)
theorem Cov.len {s : ByteArray} {i : Nat} {x : Nat × Nat} {off : Nat} (h : Cov s i x off) : i < (lns s).length := (List.getElem?_eq_some_iff.1 h.at_).1
theorem cov_go (s : ByteArray) (off : Nat) (ho : off < s.size) : ∀ (L : List (Nat × Nat)) (p : Nat), Chain s p L → p ≤ off → ∃ (i : Nat) (x : Nat × Nat), L[i]? = some x ∧ x.1 ≤ off ∧ off < lend s x.2
  | [], p, h, hp => by have h' : p = s.size := h; omega
  | y :: r, p, h, hp => by
    obtain ⟨h1, h2, h3, h4, h5⟩ := h
    by_cases hc : off < lend s y.2
    · exact ⟨0, y, rfl, by omega, hc⟩
    · rcases h5 with ⟨f1, f2, f3⟩ | ⟨f1, f2, f3⟩
      · have e : lend s y.2 = y.2 + 1 := by unfold lend; rw [if_pos f1]
        obtain ⟨i, x, g1, g2, g3⟩ := cov_go s off ho r (y.2 + 1) f3 (by omega)
        exact ⟨i + 1, x, by simpa using g1, g2, g3⟩
      · have e : lend s y.2 = s.size := by unfold lend; rw [if_neg (by omega)]
        omega
theorem cov_ex (s : ByteArray) (off : Nat) (ho : off < s.size) : ∃ i x, Cov s i x off := by
  obtain ⟨i, x, h1, h2, h3⟩ := cov_go s off ho _ 0 (chain_lns s) (Nat.zero_le _)
  exact ⟨i, x, h1, h2, h3⟩

/-! ### the count of line feeds, by both -/
theorem lineR_go (s : ByteArray) (hs : s.size ≤ 1099511627776) (off : Nat) (ho : off ≤ s.size) : ∀ (d i : Nat), i + d = off → Ev (fun k => codesearchref01_line.l0 k s (off : Int) (nlc s i : Int) (i : Int)) (nlc s off : Int)
  | 0, i, h => by
    obtain rfl : i = off := by omega
    refine Ev.step (fun k => by rw [codesearchref01_line.l0]) ?_
    have h1 : ¬ ((i : Int) < (i : Int)) := by omega
    simp only [if_neg h1]
    exact Ev.now _
  | d + 1, i, h => by
    refine Ev.step (fun k => by rw [codesearchref01_line.l0]) ?_
    have h1 : (i : Int) < (off : Int) := by omega
    have h2 : (0 : Int) ≤ (i : Int) := by omega
    have h3 : (i : Int) < (s.size : Int) := by omega
    have hn := nlc_le s i
    have rest := lineR_go s hs off ho d (i + 1) (by omega)
    rw [nlc_succ] at rest
    simp only [if_pos h1, if_pos h2, if_pos h3, up i (by omega)]
    by_cases hb : bt s (i : Int) = 10
    · rw [if_pos hb] at rest
      simp only [if_pos hb, up (nlc s i) (by omega)]
      exact rest
    · rw [if_neg hb] at rest
      simp only [if_neg hb]
      exact rest
theorem lineR_ev (s : ByteArray) (hs : s.size ≤ 1099511627776) (off : Nat) (ho : off ≤ s.size) : Ev (fun k => codesearchref01_line.f k s (off : Int)) (nlc s off : Int) := by
  unfold codesearchref01_line.f
  exact lineR_go s hs off ho off 0 (by omega)
theorem count_take (s : ByteArray) : ∀ off, off ≤ s.size → (s.data.toList.take off).count 10 = nlc s off
  | 0, _ => rfl
  | i + 1, h => by
    have hp : i < s.data.toList.length := by rw [data_length]; omega
    rw [List.take_succ_eq_append_getElem hp, List.count_append, count_take s i (by omega), nlc_succ]
    congr 1
    rw [bt_nat s i (by omega)]
    by_cases hc : s.data.toList[i] = 10
    · rw [hc]; rfl
    · have hc' : ¬ ((s.data.toList[i].toNat : Int) = 10) := by
        intro e
        refine hc (UInt8.toNat_inj.1 ?_)
        have : (10 : UInt8).toNat = 10 := rfl
        omega
      rw [if_neg hc', List.count_eq_zero]
      intro hm
      rw [List.mem_singleton] at hm
      exact hc hm.symm
theorem count_eq (s : ByteArray) (off : Nat) (ho : off ≤ s.size) : strings_Count.f (s.extract 0 off) (⟨#[10]⟩ : ByteArray) = some (nlc s off : Int) := by
  unfold strings_Count.f
  rw [if_pos (show (⟨#[10]⟩ : ByteArray).size = 1 from rfl)]
  have e : (s.extract 0 off).data.toList = s.data.toList.take off := by
    rw [Lib.extract_data]; simp
  have e2 : ((⟨#[10]⟩ : ByteArray).data.toList.headD 0) = 10 := rfl
  rw [e, e2]
  unfold Lib.countByte
  rw [count_take s off ho]
theorem bt_pre (s : ByteArray) (off j : Nat) (hj : j < off) (ho : off ≤ s.size) : bt (s.extract 0 off) (j : Int) = bt s (j : Int) := by
  have hz : (s.extract 0 off).size = off := by rw [ByteArray.size_extract]; omega
  rw [bt_nat _ j (by omega), bt_nat s j (by omega)]
  congr 2
  have e : (s.extract 0 off).data.toList = s.data.toList.take off := by
    rw [Lib.extract_data]; simp
  simp
theorem last_go (s : ByteArray) (hs : s.size ≤ 1099511627776) (off : Nat) (ho : off ≤ s.size) (a : Nat) (ha : a = 0 ∨ bt s ((a - 1 : Nat) : Int) = 10) : ∀ (d : Nat), a + d ≤ off → (∀ j : Nat, a ≤ j → j < a + d → bt s j ≠ 10) →
    Ev (fun k => bytealg_LastIndexByteString.l0 k (s.extract 0 off) 10 ((a + d : Nat) - 1 : Int)) ((a : Int) - 1)
  | 0, h, hn => by
    refine Ev.step (fun k => by rw [bytealg_LastIndexByteString.l0]) ?_
    have hz : (s.extract 0 off).size = off := by rw [ByteArray.size_extract]; omega
    by_cases h0 : a = 0
    · subst h0
      have h1 : ¬ (((0 + 0 : Nat) : Int) - 1 ≥ 0) := by omega
      simp only [if_neg h1]
      exact Ev.now _
    · have hb := ha.resolve_left h0
      have e : ((a + 0 : Nat) : Int) - 1 = ((a - 1 : Nat) : Int) := by omega
      have h1 : ((a - 1 : Nat) : Int) ≥ 0 := by omega
      have h2 : ((a - 1 : Nat) : Int) < ((s.extract 0 off).size : Int) := by omega
      have h3 : bt (s.extract 0 off) ((a - 1 : Nat) : Int) = 10 := by rw [bt_pre s off _ (by omega) ho]; exact hb
      simp only [e, if_pos h1, if_pos h2, if_pos h3]
      rw [show (a : Int) - 1 = ((a - 1 : Nat) : Int) by omega]
      exact Ev.now _
  | d + 1, h, hn => by
    refine Ev.step (fun k => by rw [bytealg_LastIndexByteString.l0]) ?_
    have hz : (s.extract 0 off).size = off := by rw [ByteArray.size_extract]; omega
    have e : ((a + (d + 1) : Nat) : Int) - 1 = ((a + d : Nat) : Int) := by omega
    have h1 : ((a + d : Nat) : Int) ≥ 0 := by omega
    have h2 : ((a + d : Nat) : Int) < ((s.extract 0 off).size : Int) := by omega
    have h3 : ¬ (bt (s.extract 0 off) ((a + d : Nat) : Int) = 10) := by rw [bt_pre s off _ (by omega) ho]; exact hn (a + d) (by omega) (by omega)
    have h4 : wrap64 (((a + d : Nat) : Int) - 1) = ((a + d : Nat) : Int) - 1 := wr _ (by omega) (by omega)
    simp only [e, if_pos h1, if_pos h2, if_neg h3, h4]
    exact last_go s hs off ho a ha d (by omega) (fun j j1 j2 => hn j j1 (by omega))
theorem last_ev (s : ByteArray) (hs : s.size ≤ 1099511627776) {i : Nat} {x : Nat × Nat} {off : Nat} (h : Cov s i x off) : Ev (fun k => strings_LastIndexByte.f k (s.extract 0 off) 10) ((x.1 : Int) - 1) := by
  unfold strings_LastIndexByte.f bytealg_LastIndexByteString.f
  have ho := h.lt
  have hf := h.from_
  have hz : (s.extract 0 off).size = off := by rw [ByteArray.size_extract]; omega
  have g := last_go s hs off (by omega) x.1 (all_lines s i x h.at_).1 (off - x.1) (by omega) (fun j j1 j2 => h.no j j1 (by omega))
  rw [show x.1 + (off - x.1) = off by omega] at g
  have e : wrap64 (((s.extract 0 off).size : Int) - 1) = (off : Int) - 1 := by rw [hz]; exact wr _ (by omega) (by omega)
  simp only [e]
  exact Ev.bind g (Ev.now _)

/-! ### At -/
theorem at_in (s : ByteArray) (hs : s.size ≤ 1099511627776) {i : Nat} {x : Nat × Nat} {off : Nat} (h : Cov s i x off) : Ev (fun k => text_At.f k s (off : Int)) ((i : Int) + 1, (off : Int) - x.1 + 1, true) := by
  have ho := h.lt
  have hf := h.from_
  have hi := h.len
  have hn := nlc_le s off
  have e := h.nlc_eq
  unfold text_At.f
  have h1 : ¬ ((off : Int) < 0) := by omega
  have h2 : decide ((off : Int) ≥ (s.size : Int)) = false := decide_eq_false (by omega)
  simp only [if_neg h1, h2]
  refine Ev.step (fun k => by rw [text_At.j0]) ?_
  have h3 : (0 : Int) ≤ (off : Int) := by omega
  have h4 : (off : Int) ≤ (s.size : Int) := by omega
  simp only [Bool.false_eq_true, if_false, if_pos h3, if_pos h4, Int.toNat_natCast, count_eq s off (by omega), Option.bind_some]
  refine Ev.bind (last_ev s hs h) ?_
  have e1 : wrap64 ((nlc s off : Int) + 1) = (i : Int) + 1 := by rw [wr _ (by omega) (by omega)]; omega
  have e2 : wrap64 ((off : Int) - ((x.1 : Int) - 1)) = (off : Int) - x.1 + 1 := by rw [wr _ (by omega) (by omega)]; omega
  simp only [e1, e2]
  exact Ev.now _
theorem at_out (s : ByteArray) (off : Int) (h : ¬ (0 ≤ off ∧ off < (s.size : Int))) : Ev (fun k => text_At.f k s off) (0, 0, false) := by
  unfold text_At.f
  by_cases h1 : off < 0
  · simp only [if_pos h1]
    refine Ev.step (fun k => by rw [text_At.j0]) ?_
    simp only [if_true]
    exact Ev.now _
  · have h2 : decide (off ≥ (s.size : Int)) = true := decide_eq_true (by omega)
    simp only [if_neg h1, h2]
    refine Ev.step (fun k => by rw [text_At.j0]) ?_
    simp only [if_true]
    exact Ev.now _
theorem atR_in (s : ByteArray) (hs : s.size ≤ 1099511627776) {i : Nat} {x : Nat × Nat} {off : Nat} (h : Cov s i x off) : Ev (fun k => codesearchref01_At.f k s (off : Int)) ((i : Int) + 1, (off : Int) - x.1 + 1, true) := by
  have ho := h.lt
  have hf := h.from_
  have hi := h.len
  have hn := nlc_le s off
  have e := h.nlc_eq
  unfold codesearchref01_At.f
  have h1 : ¬ ((off : Int) < 0) := by omega
  have h2 : decide ((off : Int) ≥ (s.size : Int)) = false := decide_eq_false (by omega)
  simp only [if_neg h1, h2]
  refine Ev.step (fun k => by rw [codesearchref01_At.j0]) ?_
  simp only [Bool.false_eq_true, if_false]
  refine Ev.bind (lineR_ev s hs off (by omega)) ?_
  refine Ev.bind (startsR_ev s hs) ?_
  rw [e]
  have h3 : (0 : Int) ≤ (i : Int) := by omega
  have h4 : (i : Int) < ((stS s).length : Int) := by rw [stS_len]; omega
  have e1 : wrap64 ((i : Int) + 1) = (i : Int) + 1 := wr _ (by omega) (by omega)
  have e2 : wrap64 (wrap64 ((off : Int) - (x.1 : Int)) + 1) = (off : Int) - x.1 + 1 := by rw [wr ((off : Int) - (x.1 : Int)) (by omega) (by omega)]; exact wr _ (by omega) (by omega)
  simp only [if_pos h3, if_pos h4, rd_st s i x h.at_, e1, e2]
  exact Ev.now _
theorem atR_out (s : ByteArray) (off : Int) (h : ¬ (0 ≤ off ∧ off < (s.size : Int))) : Ev (fun k => codesearchref01_At.f k s off) (0, 0, false) := by
  unfold codesearchref01_At.f
  by_cases h1 : off < 0
  · simp only [if_pos h1]
    refine Ev.step (fun k => by rw [codesearchref01_At.j0]) ?_
    simp only [if_true]
    exact Ev.now _
  · have h2 : decide (off ≥ (s.size : Int)) = true := decide_eq_true (by omega)
    simp only [if_neg h1, h2]
    refine Ev.step (fun k => by rw [codesearchref01_At.j0]) ?_
    simp only [if_true]
    exact Ev.now _

/-! ### Off -/
/-- what Off comes to -/
def offS (s : ByteArray) (line col : Int) : Int × Bool := match (lns s)[(line - 1).toNat]? with
  | none => (0, false)
  | some x => if line < 1 then (0, false) else if col < 1 then (0, false) else if col > (lend s x.2 : Int) - x.1 then (0, false) else ((x.1 : Int) + col - 1, true)
theorem offS_low (s : ByteArray) (line col : Int) (h : line < 1) : offS s line col = (0, false) := by
  unfold offS
  split
  · rfl
  · rw [if_pos h]
theorem offS_high (s : ByteArray) (line col : Int) (h : line > ((lns s).length : Int)) : offS s line col = (0, false) := by
  unfold offS
  rw [List.getElem?_eq_none (by omega)]
theorem offS_in (s : ByteArray) (i : Nat) (x : Nat × Nat) (h : (lns s)[i]? = some x) (col : Int) : offS s ((i : Int) + 1) col = if col < 1 then (0, false) else if col > (lend s x.2 : Int) - x.1 then (0, false) else ((x.1 : Int) + col - 1, true) := by
  unfold offS
  have e : ((i : Int) + 1 - 1).toNat = i := by omega
  rw [e, h]
  simp only
  rw [if_neg (by omega)]
theorem off_ev (s : ByteArray) (hs : s.size ≤ 1099511627776) (line col : Int) : Ev (fun k => text_Off.f k s line col) (offS s line col) := by
  unfold text_Off.f
  simp only [starts_eq s hs, Option.bind_some]
  have hn := lns_len s hs
  by_cases h1 : line < 1
  · simp only [if_pos h1]
    refine Ev.step (fun k => by rw [text_Off.j0]) ?_
    rw [offS_low s line col h1]
    simp only [if_true]
    exact Ev.now _
  by_cases h2 : line > ((lns s).length : Int)
  · have h2' : decide (line > ((stS s).length : Int)) = true := decide_eq_true (by rw [stS_len]; exact h2)
    simp only [if_neg h1, h2']
    refine Ev.step (fun k => by rw [text_Off.j0]) ?_
    rw [offS_high s line col h2]
    simp only [if_true]
    exact Ev.now _
  have h2' : decide (line > ((stS s).length : Int)) = false := decide_eq_false (by rw [stS_len]; exact h2)
  simp only [if_neg h1, h2']
  refine Ev.step (fun k => by rw [text_Off.j0]) ?_
  obtain ⟨i, rfl⟩ : ∃ i : Nat, line = (i : Int) + 1 := ⟨(line - 1).toNat, by omega⟩
  have hi : i < (lns s).length := by omega
  obtain ⟨x, hx⟩ : ∃ x, (lns s)[i]? = some x := ⟨_, List.getElem?_eq_getElem hi⟩
  have hl := line_at s i x hx
  have hle := hl.le
  have htop := hl.top
  have hend := lend_le s x.2
  obtain ⟨_, _, g3, g4⟩ := all_lines s i x hx
  have e0 : wrap64 ((i : Int) + 1 - 1) = (i : Int) := by rw [wr _ (by omega) (by omega)]; omega
  have h3 : (0 : Int) ≤ (i : Int) := by omega
  have h4 : (i : Int) < ((stS s).length : Int) := by rw [stS_len]; omega
  rw [offS_in s i x hx]
  have hle2 : x.1 ≤ lend s x.2 := by unfold lend; split <;> omega
  have e1 : wrap64 ((lend s x.2 : Int) - (x.1 : Int)) = (lend s x.2 : Int) - x.1 := wr _ (by omega) (by omega)
  simp only [Bool.false_eq_true, if_false, e0, if_pos h3, if_pos h4, rd_st s i x hx]
  have tail : ∀ E : Int, E = (lend s x.2 : Int) → Ev (fun _ : Nat => if col < 1 then some ((0 : Int), false) else if col > wrap64 (E - (x.1 : Int)) then some (0, false) else some (wrap64 (wrap64 ((x.1 : Int) + col) - 1), true))
      (if col < 1 then ((0 : Int), false) else if col > (lend s x.2 : Int) - x.1 then (0, false) else ((x.1 : Int) + col - 1, true)) := by
    intro E hE
    rw [hE, e1]
    by_cases c1 : col < 1
    · simp only [if_pos c1]; exact Ev.now _
    · by_cases c2 : col > (lend s x.2 : Int) - x.1
      · simp only [if_neg c1, if_pos c2]; exact Ev.now _
      · simp only [if_neg c1, if_neg c2]
        rw [wr ((x.1 : Int) + col) (by omega) (by omega), wr _ (by omega) (by omega)]
        exact Ev.now _
  by_cases h5 : (i : Int) + 1 < ((stS s).length : Int)
  · have h6 : (0 : Int) ≤ (i : Int) + 1 := by omega
    obtain ⟨y, hy⟩ : ∃ y, (lns s)[i + 1]? = some y := ⟨_, List.getElem?_eq_getElem (by rw [stS_len] at h5; omega)⟩
    have e5 : rd (stS s) ((i : Int) + 1) = (lend s x.2 : Int) := by
      have := rd_st s (i + 1) y hy
      rw [g3 y hy] at this
      exact this
    simp only [if_pos h5, if_pos h6]
    exact tail _ e5
  · have e5 : (s.size : Int) = (lend s x.2 : Int) := by
      rw [g4 (List.getElem?_eq_none (by rw [stS_len] at h5; omega))]
    simp only [if_neg h5]
    exact tail _ e5
theorem offR_ev (s : ByteArray) (hs : s.size ≤ 1099511627776) (line col : Int) : Ev (fun k => codesearchref01_Off.f k s line col) (offS s line col) := by
  unfold codesearchref01_Off.f
  refine Ev.bind (startsR_ev s hs) ?_
  have hn := lns_len s hs
  by_cases h1 : line < 1
  · simp only [if_pos h1]
    refine Ev.step (fun k => by rw [codesearchref01_Off.j0]) ?_
    rw [offS_low s line col h1]
    simp only [if_true]
    exact Ev.now _
  by_cases h2 : line > ((lns s).length : Int)
  · have h2' : line > ((stS s).length : Int) := by rw [stS_len]; exact h2
    simp only [if_neg h1, if_pos h2']
    refine Ev.step (fun k => by rw [codesearchref01_Off.j0]) ?_
    rw [offS_high s line col h2]
    simp only [if_true]
    exact Ev.now _
  have h2' : ¬ (line > ((stS s).length : Int)) := by rw [stS_len]; exact h2
  simp only [if_neg h1, if_neg h2']
  obtain ⟨i, rfl⟩ : ∃ i : Nat, line = (i : Int) + 1 := ⟨(line - 1).toNat, by omega⟩
  have hi : i < (lns s).length := by omega
  obtain ⟨x, hx⟩ : ∃ x, (lns s)[i]? = some x := ⟨_, List.getElem?_eq_getElem hi⟩
  have hl := line_at s i x hx
  have hle := hl.le
  have htop := hl.top
  have hend := lend_le s x.2
  have hle2 : x.1 ≤ lend s x.2 := by unfold lend; split <;> omega
  have e0 : wrap64 ((i : Int) + 1 - 1) = (i : Int) := by rw [wr _ (by omega) (by omega)]; omega
  have h3 : (0 : Int) ≤ (i : Int) := by omega
  have h4 : (i : Int) < ((stS s).length : Int) := by rw [stS_len]; omega
  rw [offS_in s i x hx]
  have e1 : wrap64 ((lend s x.2 : Int) - (x.1 : Int)) = (lend s x.2 : Int) - x.1 := wr _ (by omega) (by omega)
  by_cases c1 : col < 1
  · have c1' : decide (col < 1) = true := decide_eq_true c1
    simp only [c1']
    refine Ev.step (fun k => by rw [codesearchref01_Off.j0]) ?_
    simp only [if_true, if_pos c1]
    exact Ev.now _
  · have c1' : decide (col < 1) = false := decide_eq_false c1
    simp only [c1']
    refine Ev.step (fun k => by rw [codesearchref01_Off.j0]) ?_
    simp only [Bool.false_eq_true, if_false, if_neg c1, e0, if_pos h3, if_pos h4, rd_st s i x hx]
    refine Ev.bind (stop_ev s hs x.1 x.2 hl) ?_
    rw [e1]
    by_cases c2 : col > (lend s x.2 : Int) - x.1
    · simp only [if_pos c2]; exact Ev.now _
    · simp only [if_neg c2]
      rw [wr ((x.1 : Int) + col) (by omega) (by omega), wr _ (by omega) (by omega)]
      exact Ev.now _
end Go.Proofs.Ytkklemjidocngaa.Pure
