/-
  EditMoves: Move of package edit answers as the reference's, for all edits and numbers. No condition beside the given statement's own.
-/
import Derived.Test.YtkokiggccbkngaaPureMove
import Derived.Test.YtkokiggccbkngaaPureEditApplies
import Derived.Test.YtkokiggccbkngaaPAllx11
namespace Go.Proofs.Ytkokiggccbkngaa.Pure
open Go.RowKit Go.Proofs.Ytkokiggccbkngaa.PAll Go.Proofs.YtkokiggccbkngaaW.PrintWords Go.Proofs.YtkokiggccbkngaaW.PrintLast
theorem moveR_go (off : Int) (l : List S40) (hl : l.length ≤ 64) : ∀ (d i : Nat) (a : Int), i + d = l.length → Ev (fun k => codesearchref21_Move.l0 k l off a (i : Int)) (mvS off a (l.drop i))
  | 0, i, a, h => by
    refine Ev.step (fun k => by rw [codesearchref21_Move.l0]) ?_
    have h1 : ¬ ((i : Int) < (l.length : Int)) := by omega
    rw [List.drop_of_length_le (by omega)]
    simp only [if_neg h1, mvS]
    exact Ev.now _
  | d + 1, i, a, h => by
    refine Ev.step (fun k => by rw [codesearchref21_Move.l0]) ?_
    have hi : i < l.length := by omega
    have h1 : (i : Int) < (l.length : Int) := by omega
    have h2 : (0 : Int) ≤ (i : Int) := by omega
    rw [List.drop_eq_getElem_cons hi, mvS]
    simp only [if_pos h1, if_pos h2, rd_at l i hi]
    have cont : Ev (fun k => codesearchref21_Move.j2 k l off a (i : Int) false) (if l[i].f1 ≤ off then mvS off (wrap64 (a + wrap64 ((l[i].f2.size : Int) - wrap64 (l[i].f1 - l[i].f0)))) (l.drop (i + 1)) else mvS off a (l.drop (i + 1))) := by
      refine Ev.step (fun k => by rw [codesearchref21_Move.j2]) ?_
      simp only [Bool.false_eq_true, if_false, if_pos h1, if_pos h2, rd_at l i hi, up i (by omega), wrapA]
      by_cases c : l[i].f1 ≤ off
      · simp only [if_pos c]; exact moveR_go off l hl d (i + 1) _ (by omega)
      · simp only [if_neg c]; exact moveR_go off l hl d (i + 1) _ (by omega)
    by_cases c1 : l[i].f0 ≤ off
    · by_cases c2 : off < l[i].f1
      · simp only [if_pos c1, decide_eq_true c2, if_pos (And.intro c1 c2)]
        refine Ev.step (fun k => by rw [codesearchref21_Move.j2]) ?_
        simp only [if_true]
        exact Ev.now _
      · have c3 : ¬ (l[i].f0 ≤ off ∧ off < l[i].f1) := fun h => c2 h.2
        simp only [if_pos c1, decide_eq_false c2, if_neg c3]
        exact cont
    · have c3 : ¬ (l[i].f0 ≤ off ∧ off < l[i].f1) := fun h => c1 h.1
      simp only [if_neg c1, if_neg c3]
      exact cont
theorem moveR_ev (l : List S40) (n off : Int) : Ev (fun k => codesearchref21_Move.f k l n off) (moveS l n off) := by
  unfold codesearchref21_Move.f moveS
  refine Ev.bind (rightR_ev l n) ?_
  have no : Ev (fun k => codesearchref21_Move.j0 k l off true) (0, false) := by
    refine Ev.step (fun k => by rw [codesearchref21_Move.j0]) ?_
    simp only [if_true]
    exact Ev.now _
  by_cases c : rightS n l = 0
  · by_cases c1 : off < 0
    · have c3 : ¬ (rightS n l = 0 ∧ 0 ≤ off ∧ off < n) := fun h => by omega
      simp only [if_pos c, if_pos c1, if_neg c3]
      exact no
    · by_cases c2 : off ≥ n
      · have c3 : ¬ (rightS n l = 0 ∧ 0 ≤ off ∧ off < n) := fun h => by omega
        simp only [if_pos c, if_neg c1, decide_eq_true c2, if_neg c3]
        exact no
      · have c3 : rightS n l = 0 ∧ 0 ≤ off ∧ off < n := ⟨c, by omega, by omega⟩
        simp only [if_pos c, if_neg c1, decide_eq_false c2, if_pos c3]
        refine Ev.step (fun k => by rw [codesearchref21_Move.j0]) ?_
        simp only [Bool.false_eq_true, if_false]
        have := moveR_go off l (right_len c) l.length 0 off (by omega)
        rw [List.drop_zero] at this
        exact this
  · have c3 : ¬ (rightS n l = 0 ∧ 0 ≤ off ∧ off < n) := fun h => c h.1
    simp only [if_neg c, if_neg c3]
    exact no
theorem EditMoves : ∀ (a0 : (List S40)) (a1 : Int) (a2 : Int), (a0.length * 32 ≤ 140737488351232 ∧ ∀ x0 ∈ a0, ((Lit.int .i64 x0.f0).wf = true ∧ (Lit.int .i64 x0.f1).wf = true ∧ x0.f2.size ≤ 140737488351232)) → (Lit.int .i64 a1).wf = true → (Lit.int .i64 a2).wf = true → ∃ k, codesearchlaw21_EditMoves.f k a0 a1 a2 = some true := by
  intro l n off _ _ _
  refine Ev.rounds (g := fun k => codesearchlaw21_EditMoves.f k l n off) ?_
  unfold codesearchlaw21_EditMoves.f
  refine Ev.bind alive_ev ?_
  simp only [if_true]
  refine Ev.bind (move_ev l n off) ?_
  refine Ev.bind (moveR_ev l n off) ?_
  simp only [if_true, beq_self_eq_true]
  exact Ev.now _
end Go.Proofs.Ytkokiggccbkngaa.Pure
