/-
  Plain facts on the printed functions of package text and of its reference: what each loop comes to. No program in sight.
-/
import Derived.Test.YtkklemjidocngaaPAllx14
namespace Go.Proofs.Ytkklemjidocngaa.Pure
open Go.RowKit Go.Proofs.Ytkklemjidocngaa.PAll Go.Proofs.YtkklemjidocngaaW.PrintWords Go.Proofs.YtkklemjidocngaaW.PrintLast

theorem alive_run : codesearchlaw01_alive.f 40 = some true := by decide +kernel
theorem alive_ev : Ev (fun k => codesearchlaw01_alive.f k) true := Ev.of codesearchlaw01_alive.mono alive_run
theorem up (i : Nat) (h : i < 4611686018427387904) : wrap64 ((i : Int) + 1) = ((i + 1 : Nat) : Int) := by unfold wrap64; omega
theorem wr (i : Int) (h0 : -4611686018427387904 ≤ i) (h : i < 4611686018427387904) : wrap64 i = i := by unfold wrap64; omega
theorem bt_nat (s : ByteArray) (i : Nat) (h : i < s.size) : bt s (i : Int) = ((s.data.toList[i]'(by rw [data_length]; exact h)).toNat : Int) := by
  unfold bt
  rw [dif_pos (by simpa using h)]
  simp
  rfl

/-! ### Valid -/
def okb (c : Int) : Bool := c == 9 || c == 10 || (decide (32 ≤ c) && decide (c ≤ 126))
def vOk (s : ByteArray) : Nat → Nat → Bool
  | 0, _ => true
  | d + 1, i => okb (bt s i) && vOk s d (i + 1)
theorem valid_go (s : ByteArray) (hs : s.size ≤ 1099511627776) : ∀ (d i : Nat), i + d = s.size → Ev (fun k => text_Valid.l0 k s (s.size : Int) (i : Int)) (vOk s d i)
  | 0, i, h => by
    refine Ev.step (fun k => by rw [text_Valid.l0]) ?_
    have h1 : ¬ ((i : Int) < (s.size : Int)) := by omega
    simp only [if_neg h1, vOk]
    exact Ev.now _
  | d + 1, i, h => by
    refine Ev.step (fun k => by rw [text_Valid.l0]) ?_
    have h1 : (i : Int) < (s.size : Int) := by omega
    have h0 : 0 ≤ (i : Int) := by omega
    have ih := valid_go s hs d (i + 1) (by omega)
    simp only [if_pos h1, if_pos h0, up i (by omega), vOk, okb]
    by_cases c1 : bt s i = 9
    · simp only [c1, if_true]; simpa using ih
    · by_cases c2 : bt s i = 10
      · simp only [c2, if_true]; simpa using ih
      · have b1 : (bt s i == 9) = false := by simpa using c1
        have b2 : (bt s i == 10) = false := by simpa using c2
        by_cases c3 : bt s i < 32
        · have e3 : ¬ (32 ≤ bt s i) := by omega
          simp [c1, c2, c3, e3, b1, b2]; exact Ev.now _
        · have e3 : 32 ≤ bt s i := by omega
          by_cases c4 : bt s i > 126
          · have e4 : ¬ (bt s i ≤ 126) := by omega
            simp [c1, c2, c3, c4, e4, b1, b2]; exact Ev.now _
          · have e4 : bt s i ≤ 126 := by omega
            simp only [if_neg c1, if_neg c2, if_neg c3, if_neg c4]
            simpa [e3, e4] using ih
theorem validR_go (s : ByteArray) (hs : s.size ≤ 1099511627776) : ∀ (d i : Nat), i + d = s.size → Ev (fun k => codesearchref01_Valid.l0 k s (i : Int)) (vOk s d i)
  | 0, i, h => by
    refine Ev.step (fun k => by rw [codesearchref01_Valid.l0]) ?_
    have h1 : ¬ ((i : Int) < (s.size : Int)) := by omega
    simp only [if_neg h1, vOk]
    exact Ev.now _
  | d + 1, i, h => by
    refine Ev.step (fun k => by rw [codesearchref01_Valid.l0]) ?_
    have h1 : (i : Int) < (s.size : Int) := by omega
    have h0 : 0 ≤ (i : Int) := by omega
    have ih := validR_go s hs d (i + 1) (by omega)
    simp only [if_pos h1, if_pos h0, up i (by omega), vOk, okb]
    by_cases c1 : bt s i = 9
    · simp only [c1, if_true]; simpa using ih
    · by_cases c2 : bt s i = 10
      · simp only [c2, if_true]; simpa using ih
      · have b1 : (bt s i == 9) = false := by simpa using c1
        have b2 : (bt s i == 10) = false := by simpa using c2
        by_cases c3 : bt s i < 32
        · have e3 : ¬ (32 ≤ bt s i) := by omega
          simp [c1, c2, c3, e3, b1, b2]; exact Ev.now _
        · have e3 : 32 ≤ bt s i := by omega
          by_cases c4 : bt s i > 126
          · have e4 : ¬ (bt s i ≤ 126) := by omega
            simp [c1, c2, c3, c4, e4, b1, b2]; exact Ev.now _
          · have e4 : bt s i ≤ 126 := by omega
            simp only [if_neg c1, if_neg c2, if_neg c3, if_neg c4]
            simpa [e3, e4] using ih
def validS (s : ByteArray) : Bool := if (s.size : Int) > 2000 then false else vOk s s.size 0
theorem valid_ev (s : ByteArray) : Ev (fun k => text_Valid.f k s) (validS s) := by
  unfold text_Valid.f validS
  by_cases h : (s.size : Int) > 2000
  · simp only [if_pos h]; exact Ev.now _
  · simp only [if_neg h]
    exact valid_go s (by omega) s.size 0 (by omega)
theorem validR_ev (s : ByteArray) : Ev (fun k => codesearchref01_Valid.f k s) (validS s) := by
  unfold codesearchref01_Valid.f validS
  by_cases h : (s.size : Int) > 2000
  · simp only [if_pos h]; exact Ev.now _
  · simp only [if_neg h]
    exact validR_go s (by omega) s.size 0 (by omega)

/-! ### lists compared with themselves -/
theorem ints_go (l : List Int) (hl : l.length ≤ 1099511627777) : ∀ (d i : Nat), i + d = l.length → Ev (fun k => codesearchref01_Ints.l0 k l l (i : Int)) true
  | 0, i, h => by
    refine Ev.step (fun k => by rw [codesearchref01_Ints.l0]) ?_
    have h1 : ¬ ((i : Int) < (l.length : Int)) := by omega
    simp only [if_neg h1]
    exact Ev.now _
  | d + 1, i, h => by
    refine Ev.step (fun k => by rw [codesearchref01_Ints.l0]) ?_
    have h1 : (i : Int) < (l.length : Int) := by omega
    have h0 : 0 ≤ (i : Int) := by omega
    simp only [if_pos h1, if_pos h0, up i (by omega), if_true]
    exact ints_go l hl d (i + 1) (by omega)
theorem ints_same (l : List Int) (hl : l.length ≤ 1099511627777) : Ev (fun k => codesearchref01_Ints.f k l l) true := by
  unfold codesearchref01_Ints.f
  simp only [if_true]
  exact ints_go l hl l.length 0 (by omega)
theorem strings_go (l : List ByteArray) (hl : l.length ≤ 1099511627777) : ∀ (d i : Nat), i + d = l.length → Ev (fun k => codesearchref01_Strings.l0 k l l (i : Int)) true
  | 0, i, h => by
    refine Ev.step (fun k => by rw [codesearchref01_Strings.l0]) ?_
    have h1 : ¬ ((i : Int) < (l.length : Int)) := by omega
    simp only [if_neg h1]
    exact Ev.now _
  | d + 1, i, h => by
    refine Ev.step (fun k => by rw [codesearchref01_Strings.l0]) ?_
    have h1 : (i : Int) < (l.length : Int) := by omega
    have h0 : 0 ≤ (i : Int) := by omega
    simp only [if_pos h1, if_pos h0, up i (by omega), if_true]
    exact strings_go l hl d (i + 1) (by omega)
theorem strings_same (l : List ByteArray) (hl : l.length ≤ 1099511627777) : Ev (fun k => codesearchref01_Strings.f k l l) true := by
  unfold codesearchref01_Strings.f
  simp only [if_true]
  exact strings_go l hl l.length 0 (by omega)
theorem spans_go (l : List S42) (hl : l.length ≤ 1099511627777) : ∀ (d i : Nat), i + d = l.length → Ev (fun k => codesearchref01_Spans.l0 k l l (i : Int)) true
  | 0, i, h => by
    refine Ev.step (fun k => by rw [codesearchref01_Spans.l0]) ?_
    have h1 : ¬ ((i : Int) < (l.length : Int)) := by omega
    simp only [if_neg h1]
    exact Ev.now _
  | d + 1, i, h => by
    refine Ev.step (fun k => by rw [codesearchref01_Spans.l0]) ?_
    have h1 : (i : Int) < (l.length : Int) := by omega
    have h0 : 0 ≤ (i : Int) := by omega
    simp only [if_pos h1, if_pos h0, up i (by omega), beq_self_eq_true, Bool.not_true, Bool.or_self, Bool.false_eq_true, if_false]
    exact spans_go l hl d (i + 1) (by omega)
theorem spans_same (l : List S42) (hl : l.length ≤ 1099511627777) : Ev (fun k => codesearchref01_Spans.f k l l) true := by
  unfold codesearchref01_Spans.f
  simp only [if_true]
  exact spans_go l hl l.length 0 (by omega)

/-! ### Fold -/
theorem foldByte_eq (c : Int) (h : 0 ≤ c ∧ c ≤ 255) : codesearchref01_FoldByte.f c = some (foldN c) := by
  unfold codesearchref01_FoldByte.f foldN
  by_cases h1 : c ≥ 65
  · by_cases h2 : c ≤ 90
    · simp only [if_pos h1, if_pos h2]
      rw [if_pos ⟨h1, h2⟩]; congr 1; omega
    · simp only [if_pos h1, if_neg h2]
      rw [if_neg (by omega)]
  · simp only [if_neg h1]
    rw [if_neg (by omega)]
theorem fold_go (s : ByteArray) (hs : s.size ≤ 1099511627776) : ∀ (d i : Nat), i + d = s.size → Ev (fun k => codesearchref01_Fold.l0 k s (((bytesOf s).map foldN).take i) (i : Int)) (foldS s)
  | 0, i, h => by
    refine Ev.step (fun k => by rw [codesearchref01_Fold.l0]) ?_
    have h1 : ¬ ((i : Int) < (s.size : Int)) := by omega
    simp only [if_neg h1]
    rw [List.take_of_length_le (by rw [List.length_map, bytesOf_length]; omega)]
    exact Ev.now _
  | d + 1, i, h => by
    refine Ev.step (fun k => by rw [codesearchref01_Fold.l0]) ?_
    have h1 : (i : Int) < (s.size : Int) := by omega
    have h0 : 0 ≤ (i : Int) := by omega
    have hl : i < ((bytesOf s).map foldN).length := by rw [List.length_map, bytesOf_length]; omega
    have h2 : (((bytesOf s).map foldN).take i).length < 140737488355328 := by rw [List.length_take]; omega
    simp only [if_pos h1, if_pos h0, up i (by omega), foldByte_eq _ (bt_range s i), Option.bind_some, if_pos h2]
    have e : ((bytesOf s).map foldN).take i ++ [foldN (bt s i)] = ((bytesOf s).map foldN).take (i + 1) := by
      rw [List.take_succ_eq_append_getElem hl, List.getElem_map, ← rd_bytesOf]
      have hl2 : i < (bytesOf s).length := by simpa using hl
      simp [rd, List.getD_eq_getElem?_getD, List.getElem?_eq_getElem hl2]
    rw [e]
    exact fold_go s hs d (i + 1) (by omega)
theorem foldR_ev (s : ByteArray) (hs : s.size ≤ 1099511627776) : Ev (fun k => codesearchref01_Fold.f k s) (foldS s) := by
  unfold codesearchref01_Fold.f
  have := fold_go s hs s.size 0 (by omega)
  simpa using this
theorem fold_eq (s : ByteArray) (hs : s.size ≤ 1099511627776) : text_Fold.f s = some (foldS s) := by unfold text_Fold.f; rw [if_pos hs]
end Go.Proofs.Ytkklemjidocngaa.Pure

