/-
  EditOrder: Join does not depend on the order of the lists, and joining edits with themselves or with none changes nothing, for all lists of at most 200 edits and every number. No condition beside the given statement's own.
-/
import Derived.Test.YtkokiggccbkngaaPureJoin
import Derived.Test.YtkokiggccbkngaaPureMove
import Derived.Test.YtkokiggccbkngaaPureAlive
import Derived.Test.YtkokiggccbkngaaPAllx14
namespace Go.Proofs.Ytkokiggccbkngaa.Pure
open Go.RowKit Go.Proofs.Ytkokiggccbkngaa.PAll Go.Proofs.YtkokiggccbkngaaW.PrintWords Go.Proofs.YtkokiggccbkngaaW.PrintLast
theorem rgo_up {n : Int} : ∀ (l : List S40) (p : Option S40), rgoS n p l = 0 → (∀ y, p = some y → y.f0 ≤ y.f1 → ∀ x ∈ l, y.f0 < x.f0) ∧ l.Pairwise (fun x y => x.f0 < y.f0)
  | [], _, _ => ⟨fun _ _ _ x hx => (by cases hx), List.Pairwise.nil⟩
  | x :: r, p, h => by
    rw [rgoS] at h
    by_cases c1 : badS n x = true
    · rw [if_pos c1] at h; omega
    rw [if_neg c1] at h
    by_cases c2 : hits p x = true
    · rw [if_pos c2] at h; omega
    rw [if_neg c2] at h
    have c1' : badS n x = false := Bool.eq_false_iff.2 c1
    simp only [badS, Bool.or_eq_false_iff, decide_eq_false_iff_not] at c1'
    obtain ⟨h1, h2⟩ := rgo_up r (some x) h
    have h1 := h1 x rfl (by omega)
    refine ⟨fun y hy hle z hz => ?_, List.pairwise_cons.2 ⟨h1, h2⟩⟩
    subst hy
    have c2' : hits (some y) x = false := Bool.eq_false_iff.2 c2
    simp only [hits, Bool.or_eq_false_iff, decide_eq_false_iff_not] at c2'
    rcases List.mem_cons.1 hz with rfl | hz
    · omega
    · have := h1 z hz; omega
theorem right_lt {n : Int} {l : List S40} (h : rightS n l = 0) : l.Pairwise ltE := (rgo_up l none (right_rgo h)).2.imp (fun h => .inl h)
theorem EditOrder : ∀ (a0 : (List S40)) (a1 : (List S40)) (a2 : Int), (a0.length * 32 ≤ 140737488351232 ∧ ∀ x0 ∈ a0, ((Lit.int .i64 x0.f0).wf = true ∧ (Lit.int .i64 x0.f1).wf = true ∧ x0.f2.size ≤ 140737488351232)) → (a1.length * 32 ≤ 140737488351232 ∧ ∀ x0 ∈ a1, ((Lit.int .i64 x0.f0).wf = true ∧ (Lit.int .i64 x0.f1).wf = true ∧ x0.f2.size ≤ 140737488351232)) → (Lit.int .i64 a2).wf = true → ∃ k, codesearchlaw21_EditOrder.f k a0 a1 a2 = some true := by
  intro a b n _ _ _
  refine Ev.rounds (g := fun k => codesearchlaw21_EditOrder.f k a b n) ?_
  unfold codesearchlaw21_EditOrder.f
  refine Ev.bind alive_ev ?_
  simp only [if_true]
  have j0 : Ev (fun k => codesearchlaw21_EditOrder.j0 k a b n true) true := by
    refine Ev.step (fun k => by rw [codesearchlaw21_EditOrder.j0]) ?_
    simp only [if_true]
    exact Ev.now _
  by_cases c1 : (a.length : Int) > 200
  · simp only [if_pos c1]; exact j0
  by_cases c2 : (b.length : Int) > 200
  · simp only [if_neg c1, decide_eq_true c2]; exact j0
  simp only [if_neg c1, decide_eq_false c2]
  refine Ev.step (fun k => by rw [codesearchlaw21_EditOrder.j0]) ?_
  simp only [Bool.false_eq_true, if_false]
  refine Ev.bind (join_ev a b n (by omega) (by omega)) ?_
  refine Ev.bind (join_ev b a n (by omega) (by omega)) ?_
  have e : joinR b a n = joinR a b n := by
    have : joinS b a = joinS a b := join_is (join_ok a b).1 (fun y => ((join_ok a b).2 y).trans ⟨Or.symm, Or.symm⟩)
    unfold joinR
    rw [this]
  rw [e]
  have hz : (joinR a b n).1.length ≤ 4611686018427387903 := by
    have := join_len a b
    unfold joinR
    split
    · show (joinS a b).length ≤ _; omega
    · simp
  simp only [if_true]
  refine Ev.bind (same_ev _ hz) ?_
  refine Ev.step (fun k => by rw [codesearchlaw21_EditOrder.j1]) ?_
  simp only [Bool.not_true, Bool.false_eq_true, if_false]
  refine Ev.bind (right_ev a n) ?_
  by_cases c : rightS n a = 0
  · simp only [if_pos c]
    have ha := right_lt c
    have e1 : joinR a a n = (a, 0) := by
      have : joinS a a = a := join_is ha (fun y => by simp)
      unfold joinR
      rw [this, if_pos c]
    have e2 : joinR [] a n = (a, 0) := by
      have : joinS [] a = a := join_is ha (fun y => by simp)
      unfold joinR
      rw [this, if_pos c]
    refine Ev.bind (join_ev a a n (by omega) (by omega)) ?_
    refine Ev.bind (join_ev [] a n (by simp) (by omega)) ?_
    rw [e1, e2]
    simp only [if_true]
    refine Ev.bind (same_ev a (by omega)) ?_
    simp only [if_true]
    refine Ev.bind (same_ev a (by omega)) ?_
    exact Ev.now _
  · simp only [if_neg c]; exact Ev.now _
end Go.Proofs.Ytkokiggccbkngaa.Pure
