/-
  Plain facts on words: text.Words and the reference's Words come to one list; that list covers just the word bytes; folding keeps it.
-/
import Derived.Test.YtkklemjidocngaaPureLib
namespace Go.Proofs.Ytkklemjidocngaa.Pure
open Go.RowKit Go.Proofs.Ytkklemjidocngaa.PAll Go.Proofs.YtkklemjidocngaaW.PrintWords Go.Proofs.YtkklemjidocngaaW.PrintLast
abbrev Sp := S42

def wb (c : Int) : Bool := (decide (97 ≤ c) && decide (c ≤ 122)) || (decide (65 ≤ c) && decide (c ≤ 90)) || (decide (48 ≤ c) && decide (c ≤ 57)) || c == 95
theorem word_eq (c : Int) : text_word.f c = some (wb c) := by
  unfold text_word.f wb
  by_cases h1 : 97 ≤ c <;> by_cases h2 : c ≤ 122 <;> by_cases h3 : 65 ≤ c <;> by_cases h4 : c ≤ 90 <;> by_cases h5 : 48 ≤ c <;> by_cases h6 : c ≤ 57 <;> simp [h1, h2, h3, h4, h5, h6]
theorem wordByte_eq (c : Int) : codesearchref01_WordByte.f c = some (wb c) := by
  unfold codesearchref01_WordByte.f wb
  by_cases h1 : 97 ≤ c <;> by_cases h2 : c ≤ 122 <;> by_cases h3 : 65 ≤ c <;> by_cases h4 : c ≤ 90 <;> by_cases h5 : 48 ≤ c <;> by_cases h6 : c ≤ 57 <;> simp [h1, h2, h3, h4, h5, h6]
def isW (s : ByteArray) (i : Nat) : Bool := wb (bt s i)
def endW (s : ByteArray) : Nat → Nat → Nat
  | 0, i => i
  | d + 1, i => if isW s i = true then endW s d (i + 1) else i
def begW (s : ByteArray) (i : Nat) : Bool := isW s i && (i == 0 || !isW s (i - 1))
def wordsF (s : ByteArray) : Nat → Nat → List Sp
  | 0, _ => []
  | d + 1, i => if begW s i = true then ⟨(i : Int), (endW s (d + 1) i : Int)⟩ :: wordsF s d (i + 1) else wordsF s d (i + 1)
theorem endW_le (s : ByteArray) : ∀ d i, i ≤ endW s d i ∧ endW s d i ≤ i + d
  | 0, i => ⟨Nat.le_refl _, Nat.le_refl _⟩
  | d + 1, i => by
    unfold endW
    split
    · have := endW_le s d (i + 1); omega
    · omega
theorem endW_in (s : ByteArray) : ∀ d i j, i ≤ j → j < endW s d i → isW s j = true
  | 0, i, j, h1, h2 => by unfold endW at h2; omega
  | d + 1, i, j, h1, h2 => by
    unfold endW at h2
    split at h2
    · rename_i hw
      by_cases e : i = j
      · subst e; exact hw
      · exact endW_in s d (i + 1) j (by omega) h2
    · omega
theorem endW_at (s : ByteArray) : ∀ d i, endW s d i < i + d → isW s (endW s d i) = false
  | 0, i, h => by unfold endW at h; omega
  | d + 1, i, h => by
    unfold endW at h ⊢
    split at h <;> rename_i hw
    · rw [if_pos hw]; exact endW_at s d (i + 1) (by omega)
    · rw [if_neg hw]; simpa using hw
/-- inside a word nothing begins: on to behind its end -/
theorem words_skip (s : ByteArray) : ∀ d i, i + d = s.size → 0 < i → isW s (i - 1) = true → wordsF s d i = wordsF s (s.size - (endW s d i + 1)) (endW s d i + 1)
  | 0, i, h, _, _ => by
    unfold endW wordsF
    rw [show s.size - (i + 1) = 0 by omega]
  | d + 1, i, h, h0, hp => by
    have hb : begW s i = false := by
      unfold begW; rw [hp]
      have : (i == 0) = false := by simp; omega
      simp [this]
    unfold endW
    conv => lhs; unfold wordsF
    rw [hb]
    simp only [Bool.false_eq_true, if_false]
    by_cases hw : isW s i = true
    · rw [if_pos hw]
      exact words_skip s d (i + 1) (by omega) (by omega) (by simpa using hw)
    · rw [if_neg hw, show s.size - (i + 1) = d by omega]
theorem words_len (s : ByteArray) : ∀ d i, (wordsF s d i).length ≤ d
  | 0, i => Nat.le_refl _
  | d + 1, i => by
    unfold wordsF
    have := words_len s d (i + 1)
    split <;> simp <;> omega

/-! ### the reference's loops -/
theorem wordsR_l1 (s : ByteArray) (hs : s.size ≤ 1099511627776) (acc : List Sp) (i : Nat) (hi : i < s.size) (ha : acc.length ≤ 1099511627776) (R : List Sp) : ∀ (d e : Nat), e + d = s.size →
    Ev (fun k => codesearchref01_Words.l0 k s (acc ++ [⟨(i : Int), (endW s d e : Int)⟩]) ((i + 1 : Nat) : Int)) R → Ev (fun k => codesearchref01_Words.l1 k s acc (i : Int) (e : Int)) R
  | 0, e, h, H => by
    refine Ev.step (fun k => by rw [codesearchref01_Words.l1]) ?_
    have h1 : ¬ ((e : Int) < (s.size : Int)) := by omega
    have h2 : acc.length < 8796093022208 := by omega
    simp only [if_neg h1, if_pos h2, up i (by omega)]
    exact H
  | d + 1, e, h, H => by
    refine Ev.step (fun k => by rw [codesearchref01_Words.l1]) ?_
    have h1 : (e : Int) < (s.size : Int) := by omega
    have h0 : 0 ≤ (e : Int) := by omega
    have h2 : acc.length < 8796093022208 := by omega
    simp only [if_pos h1, if_pos h0, wordByte_eq, Option.bind_some, up i (by omega), up e (by omega)]
    unfold endW at H
    by_cases hw : isW s e = true
    · rw [if_pos hw] at H
      have hw' : wb (bt s e) = true := hw
      simp only [hw', if_true]
      exact wordsR_l1 s hs acc i hi ha R d (e + 1) (by omega) H
    · rw [if_neg hw] at H
      have hw' : ¬ (wb (bt s e) = true) := hw
      simp only [if_neg hw', if_pos h2]
      exact H
theorem wordsR_l0 (s : ByteArray) (hs : s.size ≤ 1099511627776) : ∀ (d i : Nat) (acc : List Sp), i + d = s.size → acc.length ≤ i → Ev (fun k => codesearchref01_Words.l0 k s acc (i : Int)) (acc ++ wordsF s d i)
  | 0, i, acc, h, ha => by
    refine Ev.step (fun k => by rw [codesearchref01_Words.l0]) ?_
    have h1 : ¬ ((i : Int) < (s.size : Int)) := by omega
    simp only [if_neg h1, wordsF, List.append_nil]
    exact Ev.now _
  | d + 1, i, acc, h, ha => by
    refine Ev.step (fun k => by rw [codesearchref01_Words.l0]) ?_
    have h1 : (i : Int) < (s.size : Int) := by omega
    have h0 : 0 ≤ (i : Int) := by omega
    simp only [if_pos h1, if_pos h0, wordByte_eq, Option.bind_some]
    have next : begW s i = false → Ev (fun k => codesearchref01_Words.j1 k s acc (i : Int) true) (acc ++ wordsF s (d + 1) i) := by
      intro hb
      refine Ev.step (fun k => by rw [codesearchref01_Words.j1]) ?_
      simp only [if_true, up i (by omega)]
      unfold wordsF
      rw [hb]
      simpa using wordsR_l0 s hs d (i + 1) acc (by omega) (by omega)
    have word : begW s i = true → Ev (fun k => codesearchref01_Words.j1 k s acc (i : Int) false) (acc ++ wordsF s (d + 1) i) := by
      intro hb
      refine Ev.step (fun k => by rw [codesearchref01_Words.j1]) ?_
      simp only [Bool.false_eq_true, if_false]
      refine wordsR_l1 s hs acc i (by omega) (by omega) _ (d + 1) i h ?_
      unfold wordsF
      rw [hb]
      have := wordsR_l0 s hs d (i + 1) (acc ++ [⟨(i : Int), (endW s (d + 1) i : Int)⟩]) (by omega) (by simp; omega)
      simpa using this
    by_cases hw : isW s i = true
    · have hw' : wb (bt s i) = true := hw
      simp only [hw', if_true]
      by_cases hz : (i : Int) > 0
      · have h3 : wrap64 ((i : Int) - 1) = ((i - 1 : Nat) : Int) := by rw [wr _ (by omega) (by omega)]; omega
        have h4 : 0 ≤ ((i - 1 : Nat) : Int) := by omega
        have h5 : ((i - 1 : Nat) : Int) < (s.size : Int) := by omega
        simp only [if_pos hz, h3, if_pos h4, if_pos h5]
        cases hp : wb (bt s ((i - 1 : Nat) : Int)) with
        | true => exact next (by unfold begW; rw [hw, show isW s (i - 1) = true from hp]; have : (i == 0) = false := by simp; omega
                                 simp [this])
        | false => exact word (by unfold begW; rw [hw, show isW s (i - 1) = false from hp]; simp)
      · simp only [if_neg hz]
        have hz' : i = 0 := by omega
        subst hz'
        exact word (by unfold begW; rw [hw]; rfl)
    · have hw' : ¬ (wb (bt s i) = true) := hw
      simp only [if_neg hw']
      exact next (by unfold begW; rw [Bool.not_eq_true] at hw; rw [hw]; rfl)
def wordsS (s : ByteArray) : List Sp := wordsF s s.size 0
theorem wordsR_ev (s : ByteArray) (hs : s.size ≤ 1099511627776) : Ev (fun k => codesearchref01_Words.f k s) (wordsS s) := by
  unfold codesearchref01_Words.f wordsS
  have := wordsR_l0 s hs s.size 0 [] (by omega) (Nat.zero_le _)
  simpa using this

/-! ### the program's loops -/
theorem words_stop (s : ByteArray) (acc : List Sp) (i : Nat) (h : s.size ≤ i) : Ev (fun k => text_Words.l0 k s acc (i : Int)) acc := by
  refine Ev.step (fun k => by rw [text_Words.l0]) ?_
  have h1 : ¬ ((i : Int) < (s.size : Int)) := by omega
  simp only [if_neg h1]
  exact Ev.now _
theorem words_l1 (s : ByteArray) (hs : s.size ≤ 1099511627776) (acc : List Sp) (i : Nat) (hi : i < s.size) (ha : acc.length ≤ 1099511627776) (R : List Sp) : ∀ (d e : Nat), e + d = s.size →
    Ev (fun k => text_Words.l0 k s (acc ++ [⟨(i : Int), (endW s d e : Int)⟩]) ((endW s d e + 1 : Nat) : Int)) R → Ev (fun k => text_Words.l1 k s acc (e : Int) (i : Int)) R
  | 0, e, h, H => by
    refine Ev.step (fun k => by rw [text_Words.l1]) ?_
    have h1 : ¬ ((e : Int) < (s.size : Int)) := by omega
    have h2 : acc.length < 8796093022208 := by omega
    simp only [if_neg h1, if_pos h2, up e (by omega)]
    exact H
  | d + 1, e, h, H => by
    refine Ev.step (fun k => by rw [text_Words.l1]) ?_
    have h1 : (e : Int) < (s.size : Int) := by omega
    have h0 : 0 ≤ (e : Int) := by omega
    have h2 : acc.length < 8796093022208 := by omega
    simp only [if_pos h1, if_pos h0, word_eq, Option.bind_some, up e (by omega)]
    unfold endW at H
    by_cases hw : isW s e = true
    · rw [if_pos hw] at H
      have hw' : wb (bt s e) = true := hw
      simp only [hw', if_true]
      exact words_l1 s hs acc i hi ha R d (e + 1) (by omega) H
    · rw [if_neg hw] at H
      have hw' : ¬ (wb (bt s e) = true) := hw
      simp only [if_neg hw', if_pos h2]
      exact H
theorem words_l0 (s : ByteArray) (hs : s.size ≤ 1099511627776) (d : Nat) : ∀ (i : Nat) (acc : List Sp), i + d = s.size → acc.length ≤ i → (i = 0 ∨ isW s (i - 1) = false) → Ev (fun k => text_Words.l0 k s acc (i : Int)) (acc ++ wordsF s d i) := by
  induction d using Nat.strongRecOn with
  | _ d ih =>
    intro i acc h ha hp
    cases d with
    | zero =>
      have := words_stop s acc i (by omega)
      simpa [wordsF] using this
    | succ d =>
      refine Ev.step (fun k => by rw [text_Words.l0]) ?_
      have h1 : (i : Int) < (s.size : Int) := by omega
      have h0 : 0 ≤ (i : Int) := by omega
      simp only [if_pos h1, if_pos h0, word_eq, Option.bind_some, up i (by omega)]
      by_cases hw : isW s i = true
      · have hw' : wb (bt s i) = true := hw
        have hb : begW s i = true := by
          unfold begW; rw [hw]
          rcases hp with rfl | hp
          · rfl
          · rw [hp]; simp
        have hle := endW_le s (d + 1) i
        have hgt : i < endW s (d + 1) i := by
          unfold endW; rw [if_pos hw]
          have := endW_le s d (i + 1); omega
        simp only [hw', if_true]
        refine words_l1 s hs acc i (by omega) (by omega) _ (d + 1) i h ?_
        have e1 : wordsF s (d + 1) i = ⟨(i : Int), (endW s (d + 1) i : Int)⟩ :: wordsF s (s.size - (endW s (d + 1) i + 1)) (endW s (d + 1) i + 1) := by
          have e2 := words_skip s d (i + 1) (by omega) (by omega) (by simpa using hw)
          have e3 : endW s d (i + 1) = endW s (d + 1) i := by conv => rhs; unfold endW; rw [if_pos hw]
          conv => lhs; unfold wordsF
          rw [hb, if_pos rfl, e2, e3]
        rw [e1]
        by_cases hend : endW s (d + 1) i < s.size
        · have := ih (s.size - (endW s (d + 1) i + 1)) (by omega) (endW s (d + 1) i + 1) (acc ++ [⟨(i : Int), (endW s (d + 1) i : Int)⟩]) (by omega) (by simp; omega) (.inr (by simpa using endW_at s (d + 1) i (by omega)))
          simpa using this
        · have := words_stop s (acc ++ [⟨(i : Int), (endW s (d + 1) i : Int)⟩]) (endW s (d + 1) i + 1) (by omega)
          rw [show s.size - (endW s (d + 1) i + 1) = 0 by omega]
          simpa [wordsF] using this
      · have hw' : ¬ (wb (bt s i) = true) := hw
        simp only [if_neg hw']
        have hb : begW s i = false := by unfold begW; rw [Bool.not_eq_true] at hw; rw [hw]; rfl
        unfold wordsF
        rw [hb]
        have := ih d (by omega) (i + 1) acc (by omega) (by omega) (.inr (by simpa using hw))
        simpa using this
theorem words_ev (s : ByteArray) (hs : s.size ≤ 1099511627776) : Ev (fun k => text_Words.f k s) (wordsS s) := by
  unfold text_Words.f wordsS
  have := words_l0 s hs s.size 0 [] (by omega) (Nat.zero_le _) (.inl rfl)
  simpa using this
end Go.Proofs.Ytkklemjidocngaa.Pure
