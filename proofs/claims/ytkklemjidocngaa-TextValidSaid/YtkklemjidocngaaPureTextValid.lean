/-
  TextValid: for every string of at most 2,100 bytes text.Valid and text.Fold answer as the reference does. No condition beside the given statement's own.
-/
import Derived.Test.YtkklemjidocngaaPureLib
namespace Go.Proofs.Ytkklemjidocngaa.Pure
open Go.RowKit Go.Proofs.Ytkklemjidocngaa.PAll Go.Proofs.YtkklemjidocngaaW.PrintWords Go.Proofs.YtkklemjidocngaaW.PrintLast

theorem TextValid : codesearchlaw01_TextValid.Pure := by
  intro s _
  refine Ev.rounds ?_
  unfold codesearchlaw01_TextValid.f
  refine Ev.bind alive_ev ?_
  simp only [if_true]
  by_cases h : (s.size : Int) > 2100
  · simp only [if_pos h]; exact Ev.now _
  · simp only [if_neg h]
    refine Ev.bind (valid_ev s) ?_
    refine Ev.bind (validR_ev s) ?_
    simp only [beq_self_eq_true, if_true, fold_eq s (by omega), Option.bind_some]
    refine Ev.bind (foldR_ev s (by omega)) ?_
    simp only [beq_self_eq_true]
    exact Ev.now _

end Go.Proofs.Ytkklemjidocngaa.Pure
