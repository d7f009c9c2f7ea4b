/-
  BlobPuts: New, Right and Put of package blob answer as the reference's, for every store of at most 200 blobs and every string. No condition beside the given statement's own.
-/
import Derived.Test.YtgeejlfifeinmaaPureRef
import Derived.Test.YtgeejlfifeinmaaPAllx10
namespace Go.Proofs.Ytgeejlfifeinmaa.Pure
open Go.RowKit Go.Proofs.Ytgeejlfifeinmaa.PAll Go.Proofs.YtgeejlfifeinmaaW.PrintWords Go.Proofs.YtgeejlfifeinmaaW.PrintLast

/-! ### Find, Same, Put -/
theorem findR_go (a0 : Int) (t : ByteArray) (l : List S39) (hl : l.length ≤ 1099511627776) : ∀ (d i : Nat), i + d = l.length → Ev (fun k => codesearchref24_Find.l0 k t (i : Int) a0 l) (if btHas (l.drop i) t = true then (btId (l.drop i) t, true) else (0, false))
  | 0, i, h => by
    refine Ev.step (fun k => by rw [codesearchref24_Find.l0]) ?_
    have h1 : ¬ ((i : Int) < (l.length : Int)) := by omega
    rw [List.drop_of_length_le (by omega)]
    simp only [if_neg h1, btHas, List.any_nil, Bool.false_eq_true, if_false]
    exact Ev.now _
  | d + 1, i, h => by
    refine Ev.step (fun k => by rw [codesearchref24_Find.l0]) ?_
    have hi : i < l.length := by omega
    have h1 : (i : Int) < (l.length : Int) := by omega
    have h2 : (0 : Int) ≤ (i : Int) := by omega
    have ih := findR_go a0 t l hl d (i + 1) (by omega)
    rw [List.drop_eq_getElem_cons hi]
    simp only [if_pos h1, if_pos h2, rd_at l i hi, ba_list, up i (by omega)]
    by_cases c : l[i].f1 = t
    · have hb : btHas (l[i] :: l.drop (i + 1)) t = true := by unfold btHas; rw [List.any_cons, decide_eq_true c, Bool.true_or]
      rw [if_pos hb]
      simp only [if_pos c, btId]
      exact Ev.now _
    · have hb : btHas (l[i] :: l.drop (i + 1)) t = btHas (l.drop (i + 1)) t := by unfold btHas; rw [List.any_cons, decide_eq_false c, Bool.false_or]
      simp only [if_neg c, hb, btId]
      exact ih
theorem findR_ev (a0 : Int) (t : ByteArray) (l : List S39) (hl : l.length ≤ 1099511627776) : Ev (fun k => codesearchref24_Find.f k a0 l t) (if btHas l t = true then (btId l t, true) else (0, false)) := by
  unfold codesearchref24_Find.f
  have h := findR_go a0 t l hl l.length 0 (by omega)
  rw [List.drop_zero] at h
  exact h
theorem same_go (a : Int) (l : List S39) (hl : l.length ≤ 1099511627776) : ∀ (d i : Nat), i + d = l.length → Ev (fun k => codesearchref24_Same.l0 k (i : Int) a l a l) true
  | 0, i, h => by
    refine Ev.step (fun k => by rw [codesearchref24_Same.l0]) ?_
    have h1 : ¬ ((i : Int) < (l.length : Int)) := by omega
    simp only [if_neg h1]
    exact Ev.now _
  | d + 1, i, h => by
    refine Ev.step (fun k => by rw [codesearchref24_Same.l0]) ?_
    have h1 : (i : Int) < (l.length : Int) := by omega
    have h2 : (0 : Int) ≤ (i : Int) := by omega
    simp only [if_pos h1, if_pos h2, beq_self_eq_true, Bool.not_true, Bool.or_self, Bool.false_eq_true, if_false, up i (by omega)]
    exact same_go a l hl d (i + 1) (by omega)
theorem same_ev (a : Int) (l : List S39) (hl : l.length ≤ 1099511627776) : Ev (fun k => codesearchref24_Same.f k a l a l) true := by
  unfold codesearchref24_Same.f
  have e : ((l.length : Int) != (l.length : Int)) = false := by simp
  simp only [if_true, e]
  refine Ev.step (fun k => by rw [codesearchref24_Same.j0]) ?_
  simp only [Bool.false_eq_true, if_false]
  exact same_go a l hl l.length 0 (by omega)
def putS (a0 : Int) (l : List S39) (t : ByteArray) : Int × (List S39) × Int × Int :=
  if rightS a0 l = 0 then
    if validS t = true then
      if btHas l t = true then (a0, l, btId l t, 0) else if 128 ≤ l.length then (0, [], 0, 9) else if 9999 < a0 then (0, [], 0, 9) else (a0 + 1, l ++ [⟨a0, t⟩], a0, 0)
    else (0, [], 0, 3)
  else (0, [], 0, rightS a0 l)
theorem put_ev (a0 : Int) (l : List S39) (t : ByteArray) (h : bFitsB l = true) (ht : t.size ≤ maxLen) : Ev (fun k => blob_Put.f k a0 l t) (putS a0 l t) := by
  unfold blob_Put.f putS
  simp only [if_pos ht]
  refine Ev.bind (right_ev a0 l h) ?_
  by_cases c1 : rightS a0 l = 0
  · simp only [if_pos c1]
    refine Ev.bind (valid_ev t) ?_
    by_cases c2 : validS t = true
    · by_cases c3 : btHas l t = true
      · simp only [if_pos c2, if_pos c3]; exact Ev.now _
      · by_cases c4 : 128 ≤ l.length
        · simp only [if_pos c2, if_neg c3, if_pos c4]; exact Ev.now _
        · by_cases c5 : 9999 < a0
          · simp only [if_pos c2, if_neg c3, if_neg c4, if_pos c5]; exact Ev.now _
          · simp only [if_pos c2, if_neg c3, if_neg c4, if_neg c5]; exact Ev.now _
    · simp only [if_neg c2]; exact Ev.now _
  · simp only [if_neg c1]; exact Ev.now _
theorem right_zeroS {a0 : Int} {l : List S39} (h : rightS a0 l = 0) : 1 ≤ a0 ∧ a0 ≤ 10000 ∧ l.length ≤ 128 := by
  unfold rightS at h
  by_cases c1 : a0 < 1
  · rw [if_pos c1] at h; omega
  rw [if_neg c1] at h
  by_cases c2 : a0 > 10000
  · rw [if_pos c2] at h; omega
  rw [if_neg c2] at h
  by_cases c3 : rtIds a0 0 l = true
  · rw [if_pos c3] at h
    by_cases c4 : l.length > 128
    · rw [if_pos c4] at h; omega
    · exact ⟨by omega, by omega, by omega⟩
  · rw [if_neg c3] at h; omega
theorem putR_go (a0 : Int) (l : List S39) (t : ByteArray) (n : Int) (hl : l.length ≤ 1099511627776) : ∀ (d i : Nat), i + d = l.length → Ev (fun k => codesearchref24_Put.l0 k t (i : Int) a0 l n (l.take i)) (n, l ++ [⟨a0, t⟩], a0, 0)
  | 0, i, h => by
    refine Ev.step (fun k => by rw [codesearchref24_Put.l0]) ?_
    have h1 : ¬ ((i : Int) < (l.length : Int)) := by omega
    have e : l.take i = l := List.take_of_length_le (by omega)
    have h2 : l.length < 5864062014805 := by omega
    simp only [if_neg h1, e, if_pos h2]
    exact Ev.now _
  | d + 1, i, h => by
    refine Ev.step (fun k => by rw [codesearchref24_Put.l0]) ?_
    have hi : i < l.length := by omega
    have h1 : (i : Int) < (l.length : Int) := by omega
    have h2 : (0 : Int) ≤ (i : Int) := by omega
    have h3 : (l.take i).length < 5864062014805 := by rw [List.length_take]; omega
    have ih := putR_go a0 l t n hl d (i + 1) (by omega)
    rw [List.take_succ_eq_append_getElem hi] at ih
    simp only [if_pos h1, if_pos h2, if_pos h3, rd_at l i hi, up i (by omega)]
    exact ih
theorem putR_ev (a0 : Int) (l : List S39) (t : ByteArray) (hl : l.length ≤ 1099511627776) : Ev (fun k => codesearchref24_Put.f k a0 l t) (putS a0 l t) := by
  unfold codesearchref24_Put.f putS
  refine Ev.bind (rightR_ev a0 l hl) ?_
  by_cases c1 : rightS a0 l = 0
  · obtain ⟨z1, z2, z3⟩ := right_zeroS c1
    simp only [if_pos c1]
    refine Ev.bind (validR_ev t) ?_
    by_cases c2 : validS t = true
    · simp only [if_pos c2]
      refine Ev.bind (findR_ev a0 t l hl) ?_
      by_cases c3 : btHas l t = true
      · simp only [if_pos c3, if_true]; exact Ev.now _
      · simp only [if_neg c3, Bool.false_eq_true, if_false]
        by_cases c4 : 128 ≤ l.length
        · have c4' : (l.length : Int) = 128 := by omega
          simp only [if_pos c4', if_pos c4]
          refine Ev.step (fun k => by rw [codesearchref24_Put.j0]) ?_
          simp only [if_true]
          exact Ev.now _
        · have c4' : ¬ ((l.length : Int) = 128) := by omega
          simp only [if_neg c4', if_neg c4]
          by_cases c5 : 9999 < a0
          · have c5' : decide (a0 > 9999) = true := decide_eq_true c5
            simp only [c5', if_pos c5]
            refine Ev.step (fun k => by rw [codesearchref24_Put.j0]) ?_
            simp only [if_true]
            exact Ev.now _
          · have c5' : decide (a0 > 9999) = false := decide_eq_false c5
            simp only [c5', if_neg c5]
            refine Ev.step (fun k => by rw [codesearchref24_Put.j0]) ?_
            have w : wrap64 (a0 + 1) = a0 + 1 := wr _ (by omega) (by omega)
            simp only [Bool.false_eq_true, if_false, w]
            exact putR_go a0 l t (a0 + 1) hl l.length 0 (by omega)
    · simp only [if_neg c2]; exact Ev.now _
  · simp only [if_neg c1]; exact Ev.now _
theorem fits_of {l : List S39} (h1 : l.length * 24 ≤ 140737488351232) (h2 : ∀ x0 ∈ l, ((Lit.int .i64 x0.f0).wf = true ∧ x0.f1.size ≤ 140737488351232)) : bFitsB l = true := by
  unfold bFitsB
  rw [Bool.and_eq_true, decide_eq_true_eq, List.all_eq_true]
  refine ⟨by omega, fun b hb => ?_⟩
  obtain ⟨q1, q2⟩ := h2 b hb
  rw [Bool.and_eq_true, decide_eq_true_eq]
  exact ⟨q1, by simp only [maxLen]; omega⟩
theorem putS_len (a0 : Int) (l : List S39) (t : ByteArray) (h : l.length ≤ 200) : (putS a0 l t).2.1.length ≤ 201 := by
  unfold putS
  split
  · split
    · split
      · show l.length ≤ 201; omega
      · split
        · simp
        · split
          · simp
          · simp; omega
    · simp
  · simp
theorem BlobPuts : ∀ (a0 : S24) (a1 : ByteArray), ((Lit.int .i64 a0.f0).wf = true ∧ (a0.f1.length * 24 ≤ 140737488351232 ∧ ∀ x0 ∈ a0.f1, ((Lit.int .i64 x0.f0).wf = true ∧ x0.f1.size ≤ 140737488351232))) → a1.size ≤ 140737488351232 → ∃ k, codesearchlaw24_BlobPuts.f k a0.f0 a0.f1 a1 = some true := by
  intro ⟨n, l⟩ t ⟨_, h1, h2⟩ ht
  refine Ev.rounds (g := fun k => codesearchlaw24_BlobPuts.f k n l t) ?_
  unfold codesearchlaw24_BlobPuts.f
  refine Ev.bind alive_ev ?_
  simp only [if_true]
  by_cases h : (l.length : Int) > 200
  · simp only [if_pos h]; exact Ev.now _
  · simp only [if_neg h]
    have hb := fits_of h1 h2
    have hl : l.length ≤ 1099511627776 := by omega
    have h3 := putS_len n l t (by omega)
    refine Ev.bind (put_ev n l t hb (by simp only [maxLen]; omega)) ?_
    refine Ev.bind (putR_ev n l t hl) ?_
    have e1 : blob_New.f = some (1, []) := rfl
    have e2 : codesearchref24_New.f = some (1, []) := rfl
    simp only [e1, e2, Option.bind_some]
    refine Ev.bind (same_ev 1 [] (by simp)) ?_
    simp only [if_true]
    refine Ev.bind (right_ev n l hb) ?_
    refine Ev.bind (rightR_ev n l hl) ?_
    simp only [if_true]
    refine Ev.bind (same_ev _ _ (by omega)) ?_
    simp only [if_true, beq_self_eq_true]
    exact Ev.now _

end Go.Proofs.Ytgeejlfifeinmaa.Pure
