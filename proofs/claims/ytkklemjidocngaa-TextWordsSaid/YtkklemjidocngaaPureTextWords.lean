/-
  TextWords: for every string of at most 2,100 bytes text.Words returns the words that the reference returns. No condition beside the given statement's own.
-/
import Derived.Test.YtkklemjidocngaaPureWords
namespace Go.Proofs.Ytkklemjidocngaa.Pure
open Go.RowKit Go.Proofs.Ytkklemjidocngaa.PAll Go.Proofs.YtkklemjidocngaaW.PrintWords Go.Proofs.YtkklemjidocngaaW.PrintLast

theorem TextWords : codesearchlaw01_TextWords.Pure := by
  intro s _
  refine Ev.rounds ?_
  unfold codesearchlaw01_TextWords.f
  refine Ev.bind alive_ev ?_
  simp only [if_true]
  by_cases h : (s.size : Int) > 2100
  · simp only [if_pos h]; exact Ev.now _
  · simp only [if_neg h]
    refine Ev.bind (words_ev s (by omega)) ?_
    refine Ev.bind (wordsR_ev s (by omega)) ?_
    have hl := words_len s s.size 0
    refine Ev.bind (spans_same (wordsS s) (by unfold wordsS; omega)) ?_
    exact Ev.now _

end Go.Proofs.Ytkklemjidocngaa.Pure
