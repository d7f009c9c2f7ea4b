/-
  NotifyPosts: Post returns for every outbox and all alerts what the document says (at most 100 letters and alerts). No condition beside the given statement's own.
-/
import Derived.Test.YtcoidmhdkhpalaaPAllk
import Derived.Test.YtcoidmhdkhpalaaPurePost
namespace Go.Proofs.Ytcoidmhdkhpalaa.Pure
open Go.RowKit Go.Proofs.Ytcoidmhdkhpalaa.PAll Go.Proofs.YtcoidmhdkhpalaaW.PrintWords Go.Proofs.YtcoidmhdkhpalaaW.PrintLast
theorem postP (tu last : Int) (mail : List S38) (l : List S36) : ∃ k, codesearchlaw49_NotifyPosts.f k tu last mail l = some true := by
  refine Ev.rounds (g := fun k => codesearchlaw49_NotifyPosts.f k tu last mail l) ?_
  unfold codesearchlaw49_NotifyPosts.f
  refine Ev.bind alive_ev ?_
  simp only [if_true]
  have j0 : Ev (fun k => codesearchlaw49_NotifyPosts.j0 k l true tu last mail) true := by
    refine Ev.step (fun k => by rw [codesearchlaw49_NotifyPosts.j0]) ?_
    simp only [if_true]
    exact Ev.now _
  by_cases c1 : (mail.length : Int) > 100
  · simp only [if_pos c1]; exact j0
  simp only [if_neg c1]
  by_cases c2 : (l.length : Int) > 100
  · simp only [decide_eq_true c2]; exact j0
  simp only [decide_eq_false c2]
  refine Ev.step (fun k => by rw [codesearchlaw49_NotifyPosts.j0]) ?_
  simp only [Bool.false_eq_true, if_false]
  have h1 : mail.length ≤ 100 := by omega
  have h2 : l.length ≤ 100 := by omega
  refine Ev.bind (post_ev tu last mail l (by omega) (by omega)) (Ev.bind (rpost_ev tu last mail l (by omega) (by omega)) ?_)
  have hm := postR_len tu last mail l
  refine Ev.bind (sameout_ev _ _ _ (by omega)) ?_
  simp only [if_true]
  refine Ev.bind (letters_ev _ (by omega)) ?_
  simp only [if_true, beq_self_eq_true]
  exact Ev.now _
theorem NotifyPosts : ∀ (a0 : S24) (a1 : (List S36)), ((Lit.int .i64 a0.f0).wf = true ∧ (Lit.int .i64 a0.f1).wf = true ∧ (a0.f2.length * 64 ≤ 140737488351232 ∧ ∀ x0 ∈ a0.f2, ((Lit.int .i64 x0.f0).wf = true ∧ (Lit.int .i64 x0.f1).wf = true ∧ ((Lit.int .i64 x0.f2.f0).wf = true ∧ (Lit.int .i64 x0.f2.f1).wf = true ∧ x0.f2.f2.size ≤ 140737488351232 ∧ x0.f2.f3.size ≤ 140737488351232)))) → (a1.length * 48 ≤ 140737488351232 ∧ ∀ x0 ∈ a1, ((Lit.int .i64 x0.f0).wf = true ∧ (Lit.int .i64 x0.f1).wf = true ∧ x0.f2.size ≤ 140737488351232 ∧ x0.f3.size ≤ 140737488351232)) → ∃ k, codesearchlaw49_NotifyPosts.f k a0.f0 a0.f1 a0.f2 a1 = some true := fun a0 a1 _ _ => postP a0.f0 a0.f1 a0.f2 a1
end Go.Proofs.Ytcoidmhdkhpalaa.Pure
