/-
  Plain facts on the document's search of a letter. No program in sight.
-/
import Derived.Test.YtcoidmhdkhpalaaPureRecv
import Derived.Test.YtcoidmhdkhpalaaPAllx18
namespace Go.Proofs.Ytcoidmhdkhpalaa.Pure
open Go.RowKit Go.Proofs.Ytcoidmhdkhpalaa.PAll Go.Proofs.YtcoidmhdkhpalaaW.PrintWords Go.Proofs.YtcoidmhdkhpalaaW.PrintLast
theorem waits_go (n : Int) (l : List S38) (hl : l.length ≤ 1000) : ∀ (d i : Nat), i + d = l.length → Ev (fun k => codesearchref49_waits.l0 k l n (i : Int)) (idxN (isN n) (l.drop i) i)
  | 0, i, h => by
    refine Ev.step (fun k => by rw [codesearchref49_waits.l0]) ?_
    have h1 : ¬ ((i : Int) < (l.length : Int)) := by omega
    rw [List.drop_of_length_le (by omega)]
    simp only [if_neg h1, idxN]
    exact Ev.now _
  | d + 1, i, h => by
    refine Ev.step (fun k => by rw [codesearchref49_waits.l0]) ?_
    have hi : i < l.length := by omega
    have h1 : (i : Int) < (l.length : Int) := by omega
    have h2 : (0 : Int) ≤ (i : Int) := by omega
    rw [List.drop_eq_getElem_cons hi, idxN]
    simp only [if_pos h1, if_pos h2, rd38 l i hi, up i (by omega)]
    by_cases c : l[i].f1 = n
    · rw [if_pos (show isN n l[i] = true from decide_eq_true c)]
      simp only [if_pos c]
      exact Ev.now _
    · rw [if_neg (show ¬ isN n l[i] = true by simp [isN, c])]
      simp only [if_neg c]
      exact waits_go n l hl d (i + 1) (by omega)
theorem waits_ev (n : Int) (l : List S38) (hl : l.length ≤ 1000) : Ev (fun k => codesearchref49_waits.f k l n) (idxN (isN n) l 0) := by
  have := waits_go n l hl l.length 0 (by omega)
  rw [List.drop_zero] at this
  exact this
end Go.Proofs.Ytcoidmhdkhpalaa.Pure
