/-
  Plain facts on Ack and Pending of package notify. No program in sight.
-/
import Derived.Test.YtcoidmhdkhpalaaPureLib
import Derived.Test.YtcoidmhdkhpalaaPAllx7
import Derived.Test.YtcoidmhdkhpalaaPAllx8
namespace Go.Proofs.Ytcoidmhdkhpalaa.Pure
open Go.RowKit Go.Proofs.Ytcoidmhdkhpalaa.PAll Go.Proofs.YtcoidmhdkhpalaaW.PrintWords Go.Proofs.YtcoidmhdkhpalaaW.PrintLast
def ackL (n : Int) (l : List S38) : List S38 := l.filter fun m => decide (m.f1 > n)
theorem ackL_len (n : Int) (l : List S38) : (ackL n l).length ≤ l.length := List.length_filter_le _ _
theorem ackL_cons (n : Int) (m : S38) (l : List S38) : ackL n (m :: l) = if m.f1 > n then m :: ackL n l else ackL n l := by
  unfold ackL
  rw [List.filter_cons]
  by_cases h : m.f1 > n
  · rw [if_pos (decide_eq_true h), if_pos h]
  · rw [if_neg (by simpa using h), if_neg h]
theorem ack_go (tu last n : Int) (mail l : List S38) (hl : l.length ≤ 1000) : ∀ (d i : Nat) (out : List S38), i + d = l.length → out.length ≤ i →
    Ev (fun k => notify_Ack.l0 k n out l (l.length : Int) (i : Int) tu last mail) (tu, last, out ++ ackL n (l.drop i))
  | 0, i, out, h, ho => by
    refine Ev.step (fun k => by rw [notify_Ack.l0]) ?_
    have h1 : ¬ ((i : Int) < (l.length : Int)) := by omega
    rw [List.drop_of_length_le (by omega), show ackL n [] = [] from rfl, List.append_nil]
    simp only [if_neg h1]
    exact Ev.now _
  | d + 1, i, out, h, ho => by
    refine Ev.step (fun k => by rw [notify_Ack.l0]) ?_
    have hi : i < l.length := by omega
    have h1 : (i : Int) < (l.length : Int) := by omega
    have h2 : (0 : Int) ≤ (i : Int) := by omega
    rw [List.drop_eq_getElem_cons hi, ackL_cons]
    simp only [if_pos h1, if_pos h2, rd38 l i hi, up i (by omega), if_pos (show out.length < 2199023255552 by omega)]
    by_cases c : l[i].f1 > n
    · simp only [if_pos c]
      have ih := ack_go tu last n mail l hl d (i + 1) (out ++ [l[i]]) (by omega) (by simp; omega)
      rw [List.append_assoc] at ih
      exact ih
    · simp only [if_neg c]
      exact ack_go tu last n mail l hl d (i + 1) out (by omega) (by omega)
theorem ack_ev (tu last n : Int) (l : List S38) (hl : l.length ≤ 1000) : Ev (fun k => notify_Ack.f k tu last l n) (tu, last, ackL n l) := by
  have := ack_go tu last n l l hl l.length 0 [] (by omega) (by simp)
  rw [List.drop_zero, List.nil_append] at this
  exact this
theorem pending_f (tu last : Int) (l : List S38) (hl : l.length ≤ 1000) : notify_Pending.f tu last l = some l := by
  unfold notify_Pending.f
  rw [clone_f l (by omega)]
  rfl
end Go.Proofs.Ytcoidmhdkhpalaa.Pure
