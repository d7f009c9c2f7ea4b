/-
  Plain facts on the printed functions of package blob and of its reference: what each comes to. No program in sight.
-/
import Derived.Test.YtgeejlfifeinmaaPAllx6
import Derived.Test.YtgeejlfifeinmaaPAllx7
namespace Go.Proofs.Ytgeejlfifeinmaa.Pure
open Go.RowKit Go.Proofs.Ytgeejlfifeinmaa.PAll Go.Proofs.YtgeejlfifeinmaaW.PrintWords Go.Proofs.YtgeejlfifeinmaaW.PrintLast

theorem alive_ev : Ev (fun k => codesearchlaw24_alive.f k) true := ⟨40, fun _ hn => if_pos hn⟩
theorem up (i : Nat) (h : i < 4611686018427387904) : wrap64 ((i : Int) + 1) = ((i + 1 : Nat) : Int) := by unfold wrap64; omega
theorem wr (i : Int) (h0 : -4611686018427387904 ≤ i) (h : i < 4611686018427387904) : wrap64 i = i := by unfold wrap64; omega
/-! ### Valid -/
def okb (c : Int) : Bool := c == 9 || c == 10 || (decide (32 ≤ c) && decide (c ≤ 126))
def vOk (s : ByteArray) : Nat → Nat → Bool
  | 0, _ => true
  | d + 1, i => okb (bt s i) && vOk s d (i + 1)
theorem valid_go (s : ByteArray) (hs : s.size ≤ 1099511627776) : ∀ (d i : Nat), i + d = s.size → Ev (fun k => text_Valid.l0 k s (s.size : Int) (i : Int)) (vOk s d i)
  | 0, i, h => by
    refine Ev.step (fun k => by rw [text_Valid.l0]) ?_
    have h1 : ¬ ((i : Int) < (s.size : Int)) := by omega
    simp only [if_neg h1, vOk]
    exact Ev.now _
  | d + 1, i, h => by
    refine Ev.step (fun k => by rw [text_Valid.l0]) ?_
    have h1 : (i : Int) < (s.size : Int) := by omega
    have h0 : 0 ≤ (i : Int) := by omega
    have ih := valid_go s hs d (i + 1) (by omega)
    simp only [if_pos h1, if_pos h0, up i (by omega), vOk, okb]
    by_cases c1 : bt s i = 9
    · simp only [c1, if_true]; simpa using ih
    · by_cases c2 : bt s i = 10
      · simp only [c2, if_true]; simpa using ih
      · have b1 : (bt s i == 9) = false := by simpa using c1
        have b2 : (bt s i == 10) = false := by simpa using c2
        by_cases c3 : bt s i < 32
        · have e3 : ¬ (32 ≤ bt s i) := by omega
          simp [c1, c2, c3, e3, b1, b2]; exact Ev.now _
        · have e3 : 32 ≤ bt s i := by omega
          by_cases c4 : bt s i > 126
          · have e4 : ¬ (bt s i ≤ 126) := by omega
            simp [c1, c2, c3, c4, e4, b1, b2]; exact Ev.now _
          · have e4 : bt s i ≤ 126 := by omega
            simp only [if_neg c1, if_neg c2, if_neg c3, if_neg c4]
            simpa [e3, e4] using ih
theorem validR_go (s : ByteArray) (hs : s.size ≤ 1099511627776) : ∀ (d i : Nat), i + d = s.size → Ev (fun k => codesearchref01_Valid.l0 k s (i : Int)) (vOk s d i)
  | 0, i, h => by
    refine Ev.step (fun k => by rw [codesearchref01_Valid.l0]) ?_
    have h1 : ¬ ((i : Int) < (s.size : Int)) := by omega
    simp only [if_neg h1, vOk]
    exact Ev.now _
  | d + 1, i, h => by
    refine Ev.step (fun k => by rw [codesearchref01_Valid.l0]) ?_
    have h1 : (i : Int) < (s.size : Int) := by omega
    have h0 : 0 ≤ (i : Int) := by omega
    have ih := validR_go s hs d (i + 1) (by omega)
    simp only [if_pos h1, if_pos h0, up i (by omega), vOk, okb]
    by_cases c1 : bt s i = 9
    · simp only [c1, if_true]; simpa using ih
    · by_cases c2 : bt s i = 10
      · simp only [c2, if_true]; simpa using ih
      · have b1 : (bt s i == 9) = false := by simpa using c1
        have b2 : (bt s i == 10) = false := by simpa using c2
        by_cases c3 : bt s i < 32
        · have e3 : ¬ (32 ≤ bt s i) := by omega
          simp [c1, c2, c3, e3, b1, b2]; exact Ev.now _
        · have e3 : 32 ≤ bt s i := by omega
          by_cases c4 : bt s i > 126
          · have e4 : ¬ (bt s i ≤ 126) := by omega
            simp [c1, c2, c3, c4, e4, b1, b2]; exact Ev.now _
          · have e4 : bt s i ≤ 126 := by omega
            simp only [if_neg c1, if_neg c2, if_neg c3, if_neg c4]
            simpa [e3, e4] using ih
def validS (s : ByteArray) : Bool := if (s.size : Int) > 2000 then false else vOk s s.size 0
theorem valid_ev (s : ByteArray) : Ev (fun k => text_Valid.f k s) (validS s) := by
  unfold text_Valid.f validS
  by_cases h : (s.size : Int) > 2000
  · simp only [if_pos h]; exact Ev.now _
  · simp only [if_neg h]
    exact valid_go s (by omega) s.size 0 (by omega)
theorem validR_ev (s : ByteArray) : Ev (fun k => codesearchref01_Valid.f k s) (validS s) := by
  unfold codesearchref01_Valid.f validS
  by_cases h : (s.size : Int) > 2000
  · simp only [if_pos h]; exact Ev.now _
  · simp only [if_neg h]
    exact validR_go s (by omega) s.size 0 (by omega)

/-! ### Right -/
def rightS (a0 : Int) (l : List S39) : Int :=
  if a0 < 1 then 2 else if a0 > 10000 then 2 else if rtIds a0 0 l = true then (if l.length > 128 then 4 else if (l.all fun b => validS b.f1) = true then (if btCount l < l.length then 7 else 0) else 3) else 2
theorem rtValid_ev : ∀ l : List S39, Ev (fun k => rtValid k l) (l.all fun b => validS b.f1)
  | [] => Ev.now _
  | b :: r => by
    show Ev (fun k => (text_Valid.f k b.f1).bind fun t => if t = true then rtValid k r else some false) _
    refine Ev.bind (valid_ev b.f1) ?_
    have ih := rtValid_ev r
    cases h : validS b.f1
    · simp only [Bool.false_eq_true, if_false, List.all_cons, h, Bool.false_and]
      exact Ev.now _
    · simp only [if_true, List.all_cons, h, Bool.true_and]
      exact ih
theorem right_ev (a0 : Int) (l : List S39) (h : bFitsB l = true) : Ev (fun k => blob_Right.f k a0 l) (rightS a0 l) := by
  unfold blob_Right.f rightS
  simp only [if_pos h]
  by_cases c1 : a0 < 1
  · simp only [if_pos c1]; exact Ev.now _
  by_cases c2 : a0 > 10000
  · simp only [if_neg c1, if_pos c2]; exact Ev.now _
  by_cases c3 : rtIds a0 0 l = true
  · by_cases c4 : l.length > 128
    · simp only [if_neg c1, if_neg c2, if_pos c3, if_pos c4]; exact Ev.now _
    · simp only [if_neg c1, if_neg c2, if_pos c3, if_neg c4]
      refine Ev.bind (rtValid_ev l) ?_
      by_cases c5 : (l.all fun b => validS b.f1) = true
      · simp only [if_pos c5]
        by_cases c6 : btCount l < l.length
        · simp only [if_pos c6]; exact Ev.now _
        · simp only [if_neg c6]; exact Ev.now _
      · simp only [if_neg c5]; exact Ev.now _
  · simp only [if_neg c1, if_neg c2, if_neg c3]; exact Ev.now _
theorem rd_at (l : List S39) (i : Nat) (h : i < l.length) : rd_T39 l (i : Int) = l[i] := by
  unfold rd_T39
  rw [Int.toNat_natCast, List.getD_eq_getElem?_getD, List.getElem?_eq_getElem h]
  rfl

/-! ### the reference's Right: texts twice -/
theorem ba_list {a b : ByteArray} : a.toList = b.toList ↔ a = b := by
  constructor
  · intro h
    obtain ⟨⟨l⟩⟩ := a
    obtain ⟨⟨m⟩⟩ := b
    rw [ByteArray.toList_eq, ByteArray.toList_eq] at h
    simp at h
    rw [h]
  · rintro rfl; rfl
/-- a text earlier than index i is the one at i -/
def early (l : List S39) (i : Nat) : Bool := (l.take i).any fun b => decide (b.f1 = (l.getD i z39).f1)
def dupS (l : List S39) : Nat → Nat → Bool
  | 0, _ => false
  | d + 1, i => early l i || dupS l d (i + 1)
end Go.Proofs.Ytgeejlfifeinmaa.Pure
