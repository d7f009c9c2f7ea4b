/-
  Move and Size of package edit in plain words.
-/
import Derived.Test.YtkokiggccbkngaaPureLib
import Derived.Test.YtkokiggccbkngaaPAllx4
import Derived.Test.YtkokiggccbkngaaPAllx5
namespace Go.Proofs.Ytkokiggccbkngaa.Pure
open Go.RowKit Go.Proofs.Ytkokiggccbkngaa.PAll Go.Proofs.YtkokiggccbkngaaW.PrintWords Go.Proofs.YtkokiggccbkngaaW.PrintLast
theorem wrapA (a b c : Int) : wrap64 (wrap64 (a + b) - c) = wrap64 (a + wrap64 (b - c)) := by unfold wrap64; omega
def mvS (off : Int) : Int → List S40 → Int × Bool
  | at', [] => (at', true)
  | at', x :: r => if x.f0 ≤ off ∧ off < x.f1 then (0, false) else if x.f1 ≤ off then mvS off (wrap64 (at' + wrap64 ((x.f2.size : Int) - wrap64 (x.f1 - x.f0)))) r else mvS off at' r
def moveS (l : List S40) (n off : Int) : Int × Bool := if rightS n l = 0 ∧ 0 ≤ off ∧ off < n then mvS off off l else (0, false)
theorem move_go (off : Int) (l : List S40) (hl : l.length ≤ 64) : ∀ (d i : Nat) (a : Int), i + d = l.length → Ev (fun k => edit_Move.l0 k off a l (l.length : Int) (i : Int)) (mvS off a (l.drop i))
  | 0, i, a, h => by
    refine Ev.step (fun k => by rw [edit_Move.l0]) ?_
    have h1 : ¬ ((i : Int) < (l.length : Int)) := by omega
    rw [List.drop_of_length_le (by omega)]
    simp only [if_neg h1, mvS]
    exact Ev.now _
  | d + 1, i, a, h => by
    refine Ev.step (fun k => by rw [edit_Move.l0]) ?_
    have hi : i < l.length := by omega
    have h1 : (i : Int) < (l.length : Int) := by omega
    have h2 : (0 : Int) ≤ (i : Int) := by omega
    rw [List.drop_eq_getElem_cons hi, mvS]
    simp only [if_pos h1, if_pos h2, rd_at l i hi]
    have cont : Ev (fun k => edit_Move.j2 k off a l (l.length : Int) (i : Int) false l[i].f0 l[i].f1 l[i].f2) (if l[i].f1 ≤ off then mvS off (wrap64 (a + wrap64 ((l[i].f2.size : Int) - wrap64 (l[i].f1 - l[i].f0)))) (l.drop (i + 1)) else mvS off a (l.drop (i + 1))) := by
      refine Ev.step (fun k => by rw [edit_Move.j2]) ?_
      simp only [Bool.false_eq_true, if_false, up i (by omega)]
      by_cases c : l[i].f1 ≤ off
      · simp only [if_pos c]; exact move_go off l hl d (i + 1) _ (by omega)
      · simp only [if_neg c]; exact move_go off l hl d (i + 1) _ (by omega)
    by_cases c1 : l[i].f0 ≤ off
    · by_cases c2 : off < l[i].f1
      · simp only [if_pos c1, decide_eq_true c2, if_pos (And.intro c1 c2)]
        refine Ev.step (fun k => by rw [edit_Move.j2]) ?_
        simp only [if_true]
        exact Ev.now _
      · have c3 : ¬ (l[i].f0 ≤ off ∧ off < l[i].f1) := fun h => c2 h.2
        simp only [if_pos c1, decide_eq_false c2, if_neg c3]
        exact cont
    · have c3 : ¬ (l[i].f0 ≤ off ∧ off < l[i].f1) := fun h => c1 h.1
      simp only [if_neg c1, if_neg c3]
      exact cont
theorem move_ev (l : List S40) (n off : Int) : Ev (fun k => edit_Move.f k l n off) (moveS l n off) := by
  unfold edit_Move.f moveS
  refine Ev.bind (right_ev l n) ?_
  have no : Ev (fun k => edit_Move.j0 k l off true) (0, false) := by
    refine Ev.step (fun k => by rw [edit_Move.j0]) ?_
    simp only [if_true]
    exact Ev.now _
  by_cases c : rightS n l = 0
  · by_cases c1 : off < 0
    · have c3 : ¬ (rightS n l = 0 ∧ 0 ≤ off ∧ off < n) := fun h => by omega
      simp only [if_pos c, if_pos c1, if_neg c3]
      exact no
    · by_cases c2 : off ≥ n
      · have c3 : ¬ (rightS n l = 0 ∧ 0 ≤ off ∧ off < n) := fun h => by omega
        simp only [if_pos c, if_neg c1, decide_eq_true c2, if_neg c3]
        exact no
      · have c3 : rightS n l = 0 ∧ 0 ≤ off ∧ off < n := ⟨c, by omega, by omega⟩
        simp only [if_pos c, if_neg c1, decide_eq_false c2, if_pos c3]
        refine Ev.step (fun k => by rw [edit_Move.j0]) ?_
        simp only [Bool.false_eq_true, if_false]
        have := move_go off l (right_len c) l.length 0 off (by omega)
        rw [List.drop_zero] at this
        exact this
  · have c3 : ¬ (rightS n l = 0 ∧ 0 ≤ off ∧ off < n) := fun h => c h.1
    simp only [if_neg c, if_neg c3]
    exact no
/-- Size, whatever wraps -/
def szW : Int → List S40 → Int
  | n, [] => n
  | n, x :: r => szW (wrap64 (wrap64 (n + (x.f2.size : Int)) - wrap64 (x.f1 - x.f0))) r
theorem size_go (l : List S40) (hl : l.length ≤ 4611686018427387903) : ∀ (d i : Nat) (a : Int), i + d = l.length → Ev (fun k => edit_Size.l0 k a l (l.length : Int) (i : Int)) (szW a (l.drop i))
  | 0, i, a, h => by
    refine Ev.step (fun k => by rw [edit_Size.l0]) ?_
    have h1 : ¬ ((i : Int) < (l.length : Int)) := by omega
    rw [List.drop_of_length_le (by omega)]
    simp only [if_neg h1, szW]
    exact Ev.now _
  | d + 1, i, a, h => by
    refine Ev.step (fun k => by rw [edit_Size.l0]) ?_
    have hi : i < l.length := by omega
    have h1 : (i : Int) < (l.length : Int) := by omega
    have h2 : (0 : Int) ≤ (i : Int) := by omega
    rw [List.drop_eq_getElem_cons hi, szW]
    simp only [if_pos h1, if_pos h2, rd_at l i hi, up i (by omega)]
    exact size_go l hl d (i + 1) _ (by omega)
theorem size_ev (l : List S40) (hl : l.length ≤ 4611686018427387903) : Ev (fun k => edit_Size.f k l) (szW 0 l) := by
  unfold edit_Size.f
  have := size_go l hl l.length 0 0 (by omega)
  rw [List.drop_zero] at this
  exact this
theorem same_go (l : List S40) (hl : l.length ≤ 4611686018427387903) : ∀ (d i : Nat), i + d = l.length → Ev (fun k => codesearchref21_Same.l0 k l l (i : Int)) true
  | 0, i, h => by
    refine Ev.step (fun k => by rw [codesearchref21_Same.l0]) ?_
    have h1 : ¬ ((i : Int) < (l.length : Int)) := by omega
    simp only [if_neg h1]
    exact Ev.now _
  | d + 1, i, h => by
    refine Ev.step (fun k => by rw [codesearchref21_Same.l0]) ?_
    have h1 : (i : Int) < (l.length : Int) := by omega
    have h2 : (0 : Int) ≤ (i : Int) := by omega
    simp only [if_pos h1, if_pos h2, beq_self_eq_true, Bool.not_true, Bool.or_self, Bool.false_eq_true, if_false, up i (by omega)]
    exact same_go l hl d (i + 1) (by omega)
theorem same_ev (l : List S40) (hl : l.length ≤ 4611686018427387903) : Ev (fun k => codesearchref21_Same.f k l l) true := by
  unfold codesearchref21_Same.f
  simp only [if_true]
  exact same_go l hl l.length 0 (by omega)
end Go.Proofs.Ytkokiggccbkngaa.Pure
