/-
  Plain facts on package notify: an outbox is the same as itself. No program in sight.
-/
import Derived.Test.YtcoidmhdkhpalaaPureLib
import Derived.Test.YtcoidmhdkhpalaaPAllx16
import Derived.Test.YtcoidmhdkhpalaaPAllx15
namespace Go.Proofs.Ytcoidmhdkhpalaa.Pure
open Go.RowKit Go.Proofs.Ytcoidmhdkhpalaa.PAll Go.Proofs.YtcoidmhdkhpalaaW.PrintWords Go.Proofs.YtcoidmhdkhpalaaW.PrintLast
theorem letters_go (l : List S38) (hl : l.length ≤ 1000000) : ∀ (d i : Nat), i + d = l.length → Ev (fun k => codesearchref49_Letters.l0 k l l (i : Int)) true
  | 0, i, h => by
    refine Ev.step (fun k => by rw [codesearchref49_Letters.l0]) ?_
    have h1 : ¬ ((i : Int) < (l.length : Int)) := by omega
    simp only [if_neg h1]
    exact Ev.now _
  | d + 1, i, h => by
    refine Ev.step (fun k => by rw [codesearchref49_Letters.l0]) ?_
    have hi : i < l.length := by omega
    have h1 : (i : Int) < (l.length : Int) := by omega
    have h2 : (0 : Int) ≤ (i : Int) := by omega
    simp only [if_pos h1, if_pos h2, beq_self_eq_true, Bool.not_true, Bool.or_self, Bool.false_eq_true, if_false, up i (by omega)]
    exact letters_go l hl d (i + 1) (by omega)
theorem letters_ev (l : List S38) (hl : l.length ≤ 1000000) : Ev (fun k => codesearchref49_Letters.f k l l) true := by
  unfold codesearchref49_Letters.f
  simp only [if_true]
  exact letters_go l hl l.length 0 (by omega)
theorem sameout_ev (a b : Int) (l : List S38) (hl : l.length ≤ 1000000) : Ev (fun k => codesearchref49_SameOut.f k a b l a b l) true := by
  unfold codesearchref49_SameOut.f
  simp only [if_true]
  exact Ev.bind (letters_ev l hl) (Ev.now _)
end Go.Proofs.Ytcoidmhdkhpalaa.Pure
