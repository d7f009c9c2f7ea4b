/-
  EditApplies: Right and Apply of package edit answer as the reference's, for every string of at most 5000 bytes, all edits and every number. No condition beside the given statement's own.
-/
import Derived.Test.YtkokiggccbkngaaPureLib
import Derived.Test.YtkokiggccbkngaaPureAlive
import Derived.Test.YtkokiggccbkngaaPAllx9
namespace Go.Proofs.Ytkokiggccbkngaa.Pure
open Go.RowKit Go.Proofs.Ytkokiggccbkngaa.PAll Go.Proofs.YtkokiggccbkngaaW.PrintWords Go.Proofs.YtkokiggccbkngaaW.PrintLast

theorem rightR_go (l : List S40) (n : Int) (hl : l.length ≤ 64) : ∀ (d i : Nat), i + d = l.length → Ev (fun k => codesearchref21_Right.l0 k l n (i : Int)) (rgoS n (prevS l i) (l.drop i))
  | 0, i, h => by
    refine Ev.step (fun k => by rw [codesearchref21_Right.l0]) ?_
    have h1 : ¬ ((i : Int) < (l.length : Int)) := by omega
    rw [List.drop_of_length_le (by omega)]
    simp only [if_neg h1, rgoS]
    exact Ev.now _
  | d + 1, i, h => by
    refine Ev.step (fun k => by rw [codesearchref21_Right.l0]) ?_
    have hi : i < l.length := by omega
    have h1 : (i : Int) < (l.length : Int) := by omega
    have h2 : (0 : Int) ≤ (i : Int) := by omega
    have ih := rightR_go l n hl d (i + 1) (by omega)
    rw [List.drop_eq_getElem_cons hi, rgoS]
    have hp : prevS l (i + 1) = some l[i] := List.getElem?_eq_getElem hi
    rw [hp] at ih
    simp only [if_pos h1, if_pos h2, rd_at l i hi]
    have bad : Ev (fun k => codesearchref21_Right.j1 k l n (i : Int) true) 2 := by
      refine Ev.step (fun k => by rw [codesearchref21_Right.j1]) ?_
      simp only [if_true]
      exact Ev.now _
    by_cases c1 : l[i].f0 < 0
    · simp only [if_pos c1, badS, decide_eq_true c1, Bool.true_or, if_true]; exact bad
    by_cases c2 : l[i].f0 > l[i].f1
    · simp only [if_neg c1, if_pos c2, badS, decide_eq_true c2, Bool.true_or, Bool.or_true, if_true]; exact bad
    by_cases c3 : l[i].f1 > n
    · simp only [if_neg c1, if_neg c2, badS, decide_eq_true c3, Bool.or_true, if_true]; exact bad
    have e : badS n l[i] = false := by simp [badS, c1, c2, c3]
    simp only [if_neg c1, if_neg c2, decide_eq_false c3, e, Bool.false_eq_true, if_false]
    refine Ev.step (fun k => by rw [codesearchref21_Right.j1]) ?_
    simp only [Bool.false_eq_true, if_false]
    cases i with
    | zero =>
      have z : ¬ (((0 : Nat) : Int) > 0) := by omega
      have u := up 0 (by omega)
      simp only [if_neg z, u, prevS, hits, Bool.false_eq_true, if_false]
      exact ih
    | succ j =>
      have z : (((j + 1 : Nat) : Int) > 0) := by omega
      have z1 : (0 : Int) ≤ (j : Int) := by omega
      have z2 : (j : Int) < (l.length : Int) := by omega
      have hp2 : prevS l (j + 1) = some l[j] := List.getElem?_eq_getElem (by omega)
      simp only [if_pos z, if_pos h2, if_pos h1, dn j (by omega), if_pos z1, if_pos z2, rd_at l j (by omega), rd_at l (j + 1) hi, hp2, hits, up (j + 1) (by omega)]
      by_cases d1 : l[j + 1].f0 < l[j].f1
      · simp only [if_pos d1, decide_eq_true d1, Bool.true_or, if_true]; exact Ev.now _
      by_cases d2 : l[j + 1].f0 = l[j].f0
      · simp only [if_neg d1, if_pos d2, decide_eq_true d2, Bool.or_true, if_true]; exact Ev.now _
      · simp only [if_neg d1, if_neg d2, decide_eq_false d1, decide_eq_false d2, Bool.or_self, Bool.false_eq_true, if_false]
        exact ih
theorem rightR_ev (l : List S40) (n : Int) : Ev (fun k => codesearchref21_Right.f k l n) (rightS n l) := by
  unfold codesearchref21_Right.f rightS
  by_cases h : l.length > 64
  · have h' : (l.length : Int) > 64 := by omega
    simp only [if_pos h, if_pos h']; exact Ev.now _
  · have h' : ¬ ((l.length : Int) > 64) := by omega
    simp only [if_neg h, if_neg h']
    have := rightR_go l n (by omega) l.length 0 (by omega)
    rw [List.drop_zero] at this
    exact this
theorem applyR_go (s : ByteArray) (l : List S40) (hl : l.length ≤ 64) (R : ByteArray) (hR : R.size ≤ 4611686018427387904) : ∀ (d i : Nat) (T : ByteArray) (fr : Int), i + d = l.length → okE s.size fr (l.drop i) = true → T ++ bldE s fr (l.drop i) = R →
    Ev (fun k => codesearchref21_Apply.l0 k s l T fr (i : Int)) (if (R.size : Int) > 4000 then ((⟨#[]⟩ : ByteArray), 4) else (R, 0))
  | 0, i, T, fr, h, ok, hT => by
    refine Ev.step (fun k => by rw [codesearchref21_Apply.l0]) ?_
    have h1 : ¬ ((i : Int) < (l.length : Int)) := by omega
    rw [List.drop_of_length_le (by omega)] at ok hT
    simp only [okE, Bool.and_eq_true, decide_eq_true_eq] at ok
    rw [bldE] at hT
    have hz : T.size + (s.extract fr.toNat s.size).size ≤ 9223372036854775807 := by
      have := congrArg ByteArray.size hT
      rw [ByteArray.size_append] at this
      omega
    simp only [if_neg h1, if_pos ok.1, if_pos ok.2, if_pos hz, hT]
    by_cases c : (R.size : Int) > 4000
    · simp only [if_pos c]; exact Ev.now _
    · simp only [if_neg c]; exact Ev.now _
  | d + 1, i, T, fr, h, ok, hT => by
    refine Ev.step (fun k => by rw [codesearchref21_Apply.l0]) ?_
    have hi : i < l.length := by omega
    have h1 : (i : Int) < (l.length : Int) := by omega
    have h2 : (0 : Int) ≤ (i : Int) := by omega
    rw [List.drop_eq_getElem_cons hi] at ok hT
    simp only [okE, Bool.and_eq_true, decide_eq_true_eq] at ok
    obtain ⟨⟨⟨⟨⟨o1, o2⟩, o3⟩, o4⟩, o5⟩, o6⟩ := ok
    rw [bldE] at hT
    have hT2 : T ++ s.extract fr.toNat l[i].f0.toNat ++ l[i].f2 ++ bldE s l[i].f1 (l.drop (i + 1)) = R := by rw [← hT]; simp only [ByteArray.append_assoc]
    have hz := congrArg ByteArray.size hT2
    simp only [ByteArray.size_append] at hz
    have z1 : T.size + (s.extract fr.toNat l[i].f0.toNat).size ≤ 9223372036854775807 := by omega
    have z2 : (T ++ s.extract fr.toNat l[i].f0.toNat).size + l[i].f2.size ≤ 9223372036854775807 := by rw [ByteArray.size_append]; omega
    have z3 : l[i].f0 ≤ (s.size : Int) := by omega
    have ih := applyR_go s l hl R hR d (i + 1) (T ++ s.extract fr.toNat l[i].f0.toNat ++ l[i].f2) l[i].f1 (by omega) o6 hT2
    simp only [if_pos h1, if_pos h2, rd_at l i hi, if_pos o1, if_pos o2, if_pos z3, if_pos z1, if_pos z2, up i (by omega)]
    exact ih
theorem applyR_ev (s : ByteArray) (l : List S40) (hs : s.size ≤ 140737488355328) (hf : fitS l) : Ev (fun k => codesearchref21_Apply.f k s l) (applyS s l) := by
  unfold codesearchref21_Apply.f applyS
  refine Ev.bind (rightR_ev l s.size) ?_
  by_cases c : rightS s.size l = 0
  · have ok := right_ok (by omega) hf c
    have hz := bld_size s ok
    have hb := sz_bound (by omega) ok l.length
    rw [List.take_length] at hb
    have hl := right_len c
    have e : szE s.size l = ((bldE s 0 l).size : Int) := by omega
    simp only [if_pos c]
    rw [e]
    exact applyR_go s l hl (bldE s 0 l) (by omega) l.length 0 (⟨#[]⟩ : ByteArray) 0 (by omega) ok ByteArray.empty_append
  · simp only [if_neg c]; exact Ev.now _
theorem fit_of {l : List S40} (h : ∀ x0 ∈ l, ((Lit.int .i64 x0.f0).wf = true ∧ (Lit.int .i64 x0.f1).wf = true ∧ x0.f2.size ≤ 140737488351232)) : fitS l := fun x hx => by have := (h x hx).2.2; omega
theorem EditApplies : ∀ (a0 : ByteArray) (a1 : (List S40)) (a2 : Int), a0.size ≤ 140737488351232 → (a1.length * 32 ≤ 140737488351232 ∧ ∀ x0 ∈ a1, ((Lit.int .i64 x0.f0).wf = true ∧ (Lit.int .i64 x0.f1).wf = true ∧ x0.f2.size ≤ 140737488351232)) → (Lit.int .i64 a2).wf = true → ∃ k, codesearchlaw21_EditApplies.f k a0 a1 a2 = some true := by
  intro s l n hs ⟨_, hl⟩ _
  refine Ev.rounds (g := fun k => codesearchlaw21_EditApplies.f k s l n) ?_
  unfold codesearchlaw21_EditApplies.f
  refine Ev.bind alive_ev ?_
  simp only [if_true]
  by_cases c : (s.size : Int) > 5000
  · simp only [if_pos c]; exact Ev.now _
  simp only [if_neg c]
  refine Ev.bind (apply_ev s l (by omega) (fit_of hl)) ?_
  refine Ev.bind (applyR_ev s l (by omega) (fit_of hl)) ?_
  simp only [if_true]
  refine Ev.bind (right_ev l n) ?_
  refine Ev.bind (rightR_ev l n) ?_
  simp only [beq_self_eq_true]
  exact Ev.now _
end Go.Proofs.Ytkokiggccbkngaa.Pure
