/-
  NotifyRights: Right and Open return for every outbox and inbox what the document says (at most 100 letters, alerts and early letters). No condition beside the given statement's own.
-/
import Derived.Test.YtcoidmhdkhpalaaPAllk
import Derived.Test.YtcoidmhdkhpalaaPureRref
import Derived.Test.YtcoidmhdkhpalaaPureSame
import Derived.Test.YtcoidmhdkhpalaaPAllx28
namespace Go.Proofs.Ytcoidmhdkhpalaa.Pure
open Go.RowKit Go.Proofs.Ytcoidmhdkhpalaa.PAll Go.Proofs.YtcoidmhdkhpalaaW.PrintWords Go.Proofs.YtcoidmhdkhpalaaW.PrintLast
theorem rightP (tu last : Int) (mail : List S38) (u next : Int) (got : List S36) (early : List S38) (user : Int) : ∃ k, codesearchlaw49_NotifyRights.f k tu last mail u next got early user = some true := by
  refine Ev.rounds (g := fun k => codesearchlaw49_NotifyRights.f k tu last mail u next got early user) ?_
  unfold codesearchlaw49_NotifyRights.f
  refine Ev.bind alive_ev ?_
  simp only [if_true]
  have j0 : Ev (fun k => codesearchlaw49_NotifyRights.j0 k user true tu last mail u next got early) true := by
    refine Ev.step (fun k => by rw [codesearchlaw49_NotifyRights.j0]) ?_
    simp only [if_true]
    exact Ev.now _
  by_cases c1 : (mail.length : Int) > 100
  · simp only [if_pos c1]; exact j0
  simp only [if_neg c1]
  by_cases c2 : (got.length : Int) > 100
  · simp only [if_pos c2]; exact j0
  simp only [if_neg c2]
  by_cases c3 : (early.length : Int) > 100
  · simp only [decide_eq_true c3]; exact j0
  simp only [decide_eq_false c3]
  refine Ev.step (fun k => by rw [codesearchlaw49_NotifyRights.j0]) ?_
  simp only [Bool.false_eq_true, if_false, notify_Open.f, codesearchref49_Open.f, Option.bind_some]
  refine Ev.bind (right_ev tu last u next mail got early (by omega) (by omega) (by omega)) (Ev.bind (rright_ev tu last u next mail got early (by omega) (by omega) (by omega)) ?_)
  simp only [beq_self_eq_true, if_true]
  refine Ev.bind (sameout_ev _ _ _ (by simp)) ?_
  simp only [if_true]
  exact Ev.bind (samein_ev _ _ _ _ (by simp) (by simp)) (Ev.now _)
theorem NotifyRights : ∀ (a0 : S24) (a1 : S34) (a2 : Int), ((Lit.int .i64 a0.f0).wf = true ∧ (Lit.int .i64 a0.f1).wf = true ∧ (a0.f2.length * 64 ≤ 140737488351232 ∧ ∀ x0 ∈ a0.f2, ((Lit.int .i64 x0.f0).wf = true ∧ (Lit.int .i64 x0.f1).wf = true ∧ ((Lit.int .i64 x0.f2.f0).wf = true ∧ (Lit.int .i64 x0.f2.f1).wf = true ∧ x0.f2.f2.size ≤ 140737488351232 ∧ x0.f2.f3.size ≤ 140737488351232)))) → ((Lit.int .i64 a1.f0).wf = true ∧ (Lit.int .i64 a1.f1).wf = true ∧ (a1.f2.length * 48 ≤ 140737488351232 ∧ ∀ x0 ∈ a1.f2, ((Lit.int .i64 x0.f0).wf = true ∧ (Lit.int .i64 x0.f1).wf = true ∧ x0.f2.size ≤ 140737488351232 ∧ x0.f3.size ≤ 140737488351232)) ∧ (a1.f3.length * 64 ≤ 140737488351232 ∧ ∀ x0 ∈ a1.f3, ((Lit.int .i64 x0.f0).wf = true ∧ (Lit.int .i64 x0.f1).wf = true ∧ ((Lit.int .i64 x0.f2.f0).wf = true ∧ (Lit.int .i64 x0.f2.f1).wf = true ∧ x0.f2.f2.size ≤ 140737488351232 ∧ x0.f2.f3.size ≤ 140737488351232)))) → (Lit.int .i64 a2).wf = true → ∃ k, codesearchlaw49_NotifyRights.f k a0.f0 a0.f1 a0.f2 a1.f0 a1.f1 a1.f2 a1.f3 a2 = some true := fun a0 a1 a2 _ _ _ => rightP a0.f0 a0.f1 a0.f2 a1.f0 a1.f1 a1.f2 a1.f3 a2
end Go.Proofs.Ytcoidmhdkhpalaa.Pure
