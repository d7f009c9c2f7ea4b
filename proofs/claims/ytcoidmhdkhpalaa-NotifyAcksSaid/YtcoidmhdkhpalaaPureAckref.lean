/-
  Plain facts on Ack of the document: it gives what the program's Ack gives. No program in sight.
-/
import Derived.Test.YtcoidmhdkhpalaaPureAck
import Derived.Test.YtcoidmhdkhpalaaPAllx24
namespace Go.Proofs.Ytcoidmhdkhpalaa.Pure
open Go.RowKit Go.Proofs.Ytcoidmhdkhpalaa.PAll Go.Proofs.YtcoidmhdkhpalaaW.PrintWords Go.Proofs.YtcoidmhdkhpalaaW.PrintLast
theorem rack_go (tu last tu' last' n : Int) (l : List S38) (hl : l.length ≤ 1000) : ∀ (d i : Nat) (out : List S38), i + d = l.length → out.length ≤ i →
    Ev (fun k => codesearchref49_Ack.l0 k n (i : Int) tu last l tu' last' out) (tu', last', out ++ ackL n (l.drop i))
  | 0, i, out, h, ho => by
    refine Ev.step (fun k => by rw [codesearchref49_Ack.l0]) ?_
    have h1 : ¬ ((i : Int) < (l.length : Int)) := by omega
    rw [List.drop_of_length_le (by omega), show ackL n [] = [] from rfl, List.append_nil]
    simp only [if_neg h1]
    exact Ev.now _
  | d + 1, i, out, h, ho => by
    refine Ev.step (fun k => by rw [codesearchref49_Ack.l0]) ?_
    have hi : i < l.length := by omega
    have h1 : (i : Int) < (l.length : Int) := by omega
    have h2 : (0 : Int) ≤ (i : Int) := by omega
    rw [List.drop_eq_getElem_cons hi, ackL_cons]
    simp only [if_pos h1, if_pos h2, rd38 l i hi, up i (by omega), if_pos (show out.length < 2199023255552 by omega)]
    by_cases c : l[i].f1 > n
    · simp only [if_pos c]
      have ih := rack_go tu last tu' last' n l hl d (i + 1) (out ++ [l[i]]) (by omega) (by simp; omega)
      rw [List.append_assoc] at ih
      exact ih
    · simp only [if_neg c]
      exact rack_go tu last tu' last' n l hl d (i + 1) out (by omega) (by omega)
theorem rack_ev (tu last n : Int) (l : List S38) (hl : l.length ≤ 1000) : Ev (fun k => codesearchref49_Ack.f k tu last l n) (tu, last, ackL n l) := by
  have := rack_go tu last tu last n l hl l.length 0 [] (by omega) (by simp)
  rw [List.drop_zero, List.nil_append] at this
  exact this
end Go.Proofs.Ytcoidmhdkhpalaa.Pure
