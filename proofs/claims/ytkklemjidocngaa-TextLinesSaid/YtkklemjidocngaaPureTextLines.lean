/-
  TextLines: for every string of at most 2,100 bytes text.Lines and text.Starts return the reference's lines and where they begin. No condition beside the given statement's own.
-/
import Derived.Test.YtkklemjidocngaaPureLines
namespace Go.Proofs.Ytkklemjidocngaa.Pure
open Go.RowKit Go.Proofs.Ytkklemjidocngaa.PAll Go.Proofs.YtkklemjidocngaaW.PrintWords Go.Proofs.YtkklemjidocngaaW.PrintLast

theorem TextLines : codesearchlaw01_TextLines.Pure := by
  intro s _
  refine Ev.rounds ?_
  unfold codesearchlaw01_TextLines.f
  refine Ev.bind alive_ev ?_
  simp only [if_true]
  by_cases h : (s.size : Int) > 2100
  · simp only [if_pos h]; exact Ev.now _
  · have hs : s.size ≤ 1099511627776 := by omega
    have hn := lns_len s hs
    simp only [if_neg h, lines_eq s hs, starts_eq s hs, Option.bind_some]
    refine Ev.bind (linesR_ev s hs) ?_
    refine Ev.bind (strings_same (linesS s) (by rw [linesS_len]; exact hn)) ?_
    simp only [if_true]
    refine Ev.bind (startsR_ev s hs) ?_
    refine Ev.bind (ints_same (stS s) (by rw [stS_len]; exact hn)) ?_
    exact Ev.now _

end Go.Proofs.Ytkklemjidocngaa.Pure
