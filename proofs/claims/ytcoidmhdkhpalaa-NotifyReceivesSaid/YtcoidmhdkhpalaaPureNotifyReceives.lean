/-
  NotifyReceives: Receive returns for every inbox and letter what the document says (Next from 1 to 2^31, at most 100 alerts and letters). No condition beside the given statement's own.
-/
import Derived.Test.YtcoidmhdkhpalaaPAllk
import Derived.Test.YtcoidmhdkhpalaaPureRecvref
import Derived.Test.YtcoidmhdkhpalaaPureSame
import Derived.Test.YtcoidmhdkhpalaaPAllx23
namespace Go.Proofs.Ytcoidmhdkhpalaa.Pure
open Go.RowKit Go.Proofs.Ytcoidmhdkhpalaa.PAll Go.Proofs.YtcoidmhdkhpalaaW.PrintWords Go.Proofs.YtcoidmhdkhpalaaW.PrintLast
theorem recvP (u n : Int) (g : List S36) (e : List S38) (m : S38) : ∃ k, codesearchlaw49_NotifyReceives.f k u n g e m.f0 m.f1 m.f2.f0 m.f2.f1 m.f2.f2 m.f2.f3 = some true := by
  refine Ev.rounds (g := fun k => codesearchlaw49_NotifyReceives.f k u n g e m.f0 m.f1 m.f2.f0 m.f2.f1 m.f2.f2 m.f2.f3) ?_
  unfold codesearchlaw49_NotifyReceives.f
  refine Ev.bind alive_ev ?_
  simp only [if_true]
  have j0 : Ev (fun k => codesearchlaw49_NotifyReceives.j0 k true u n g e m.f0 m.f1 m.f2.f0 m.f2.f1 m.f2.f2 m.f2.f3) true := by
    refine Ev.step (fun k => by rw [codesearchlaw49_NotifyReceives.j0]) ?_
    simp only [if_true]
    exact Ev.now _
  by_cases c0 : n < 1
  · simp only [if_pos c0]; exact j0
  simp only [if_neg c0]
  by_cases c1 : n > 2147483648
  · simp only [if_pos c1]; exact j0
  simp only [if_neg c1]
  by_cases c2 : (g.length : Int) > 100
  · simp only [if_pos c2]; exact j0
  simp only [if_neg c2]
  by_cases c3 : (e.length : Int) > 100
  · simp only [decide_eq_true c3]; exact j0
  simp only [decide_eq_false c3]
  refine Ev.step (fun k => by rw [codesearchlaw49_NotifyReceives.j0]) ?_
  simp only [Bool.false_eq_true, if_false, recv_f u n g e m (by omega), Option.bind_some]
  have hm := recvR_len u n g e m
  refine Ev.bind (rrecv_ev u n g e m (by omega)) (Ev.bind (samein_ev _ _ _ _ (by omega) (by omega)) ?_)
  simp only [if_true, beq_self_eq_true]
  exact Ev.now _
theorem NotifyReceives : ∀ (a0 : S34) (a1 : S38), ((Lit.int .i64 a0.f0).wf = true ∧ (Lit.int .i64 a0.f1).wf = true ∧ (a0.f2.length * 48 ≤ 140737488351232 ∧ ∀ x0 ∈ a0.f2, ((Lit.int .i64 x0.f0).wf = true ∧ (Lit.int .i64 x0.f1).wf = true ∧ x0.f2.size ≤ 140737488351232 ∧ x0.f3.size ≤ 140737488351232)) ∧ (a0.f3.length * 64 ≤ 140737488351232 ∧ ∀ x0 ∈ a0.f3, ((Lit.int .i64 x0.f0).wf = true ∧ (Lit.int .i64 x0.f1).wf = true ∧ ((Lit.int .i64 x0.f2.f0).wf = true ∧ (Lit.int .i64 x0.f2.f1).wf = true ∧ x0.f2.f2.size ≤ 140737488351232 ∧ x0.f2.f3.size ≤ 140737488351232)))) → ((Lit.int .i64 a1.f0).wf = true ∧ (Lit.int .i64 a1.f1).wf = true ∧ ((Lit.int .i64 a1.f2.f0).wf = true ∧ (Lit.int .i64 a1.f2.f1).wf = true ∧ a1.f2.f2.size ≤ 140737488351232 ∧ a1.f2.f3.size ≤ 140737488351232)) → ∃ k, codesearchlaw49_NotifyReceives.f k a0.f0 a0.f1 a0.f2 a0.f3 a1.f0 a1.f1 a1.f2.f0 a1.f2.f1 a1.f2.f2 a1.f2.f3 = some true := fun a0 a1 _ _ => recvP a0.f0 a0.f1 a0.f2 a0.f3 a1
end Go.Proofs.Ytcoidmhdkhpalaa.Pure
