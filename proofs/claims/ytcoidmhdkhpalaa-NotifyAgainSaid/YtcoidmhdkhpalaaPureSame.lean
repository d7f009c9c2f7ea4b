/-
  Plain facts on the printed functions of package notify: an inbox is the same as itself. No program in sight.
-/
import Derived.Test.YtcoidmhdkhpalaaPureOut
import Derived.Test.YtcoidmhdkhpalaaPAllx22
namespace Go.Proofs.Ytcoidmhdkhpalaa.Pure
open Go.RowKit Go.Proofs.Ytcoidmhdkhpalaa.PAll Go.Proofs.YtcoidmhdkhpalaaW.PrintWords Go.Proofs.YtcoidmhdkhpalaaW.PrintLast
theorem alerts_go (l : List S36) (hl : l.length ≤ 1000000) : ∀ (d i : Nat), i + d = l.length → Ev (fun k => codesearchref49_Alerts.l0 k l l (i : Int)) true
  | 0, i, h => by
    refine Ev.step (fun k => by rw [codesearchref49_Alerts.l0]) ?_
    have h1 : ¬ ((i : Int) < (l.length : Int)) := by omega
    simp only [if_neg h1]
    exact Ev.now _
  | d + 1, i, h => by
    refine Ev.step (fun k => by rw [codesearchref49_Alerts.l0]) ?_
    have hi : i < l.length := by omega
    have h1 : (i : Int) < (l.length : Int) := by omega
    have h2 : (0 : Int) ≤ (i : Int) := by omega
    simp only [if_pos h1, if_pos h2, beq_self_eq_true, Bool.not_true, Bool.or_self, Bool.false_eq_true, if_false, up i (by omega)]
    exact alerts_go l hl d (i + 1) (by omega)
theorem alerts_ev (l : List S36) (hl : l.length ≤ 1000000) : Ev (fun k => codesearchref49_Alerts.f k l l) true := by
  unfold codesearchref49_Alerts.f
  simp only [if_true]
  exact alerts_go l hl l.length 0 (by omega)
theorem samein_ev (u n : Int) (g : List S36) (e : List S38) (hg : g.length ≤ 1000000) (he : e.length ≤ 1000000) : Ev (fun k => codesearchref49_SameIn.f k u n g e u n g e) true := by
  unfold codesearchref49_SameIn.f
  simp only [if_true]
  refine Ev.bind (alerts_ev g hg) ?_
  simp only [if_true]
  exact Ev.bind (letters_ev e he) (Ev.now _)
end Go.Proofs.Ytcoidmhdkhpalaa.Pure
