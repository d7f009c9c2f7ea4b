/-
  NotifyAcks: Ack and Pending return for every outbox what the document says (at most 100 letters). No condition beside the given statement's own.
-/
import Derived.Test.YtcoidmhdkhpalaaPAllk
import Derived.Test.YtcoidmhdkhpalaaPureAckref
import Derived.Test.YtcoidmhdkhpalaaPureOut
import Derived.Test.YtcoidmhdkhpalaaPAllx25
namespace Go.Proofs.Ytcoidmhdkhpalaa.Pure
open Go.RowKit Go.Proofs.Ytcoidmhdkhpalaa.PAll Go.Proofs.YtcoidmhdkhpalaaW.PrintWords Go.Proofs.YtcoidmhdkhpalaaW.PrintLast
theorem ackP (tu last n : Int) (l : List S38) : ∃ k, codesearchlaw49_NotifyAcks.f k tu last l n = some true := by
  refine Ev.rounds (g := fun k => codesearchlaw49_NotifyAcks.f k tu last l n) ?_
  unfold codesearchlaw49_NotifyAcks.f
  refine Ev.bind alive_ev ?_
  simp only [if_true]
  by_cases c1 : (l.length : Int) > 100
  · simp only [if_pos c1]; exact Ev.now _
  simp only [if_neg c1]
  have h1 : l.length ≤ 100 := by omega
  have h2 := ackL_len n l
  refine Ev.bind (ack_ev tu last n l (by omega)) (Ev.bind (rack_ev tu last n l (by omega)) (Ev.bind (sameout_ev _ _ (ackL n l) (by omega)) ?_))
  simp only [if_true, pending_f tu last l (by omega), Option.bind_some]
  exact Ev.bind (letters_ev _ (by omega)) (Ev.now _)
theorem NotifyAcks : ∀ (a0 : S24) (a1 : Int), ((Lit.int .i64 a0.f0).wf = true ∧ (Lit.int .i64 a0.f1).wf = true ∧ (a0.f2.length * 64 ≤ 140737488351232 ∧ ∀ x0 ∈ a0.f2, ((Lit.int .i64 x0.f0).wf = true ∧ (Lit.int .i64 x0.f1).wf = true ∧ ((Lit.int .i64 x0.f2.f0).wf = true ∧ (Lit.int .i64 x0.f2.f1).wf = true ∧ x0.f2.f2.size ≤ 140737488351232 ∧ x0.f2.f3.size ≤ 140737488351232)))) → (Lit.int .i64 a1).wf = true → ∃ k, codesearchlaw49_NotifyAcks.f k a0.f0 a0.f1 a0.f2 a1 = some true := fun a0 a1 _ _ => ackP a0.f0 a0.f1 a1 a0.f2
end Go.Proofs.Ytcoidmhdkhpalaa.Pure
