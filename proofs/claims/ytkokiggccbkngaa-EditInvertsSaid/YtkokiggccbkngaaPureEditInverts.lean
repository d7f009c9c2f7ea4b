/-
  EditInverts: Invert and Size of package edit answer as the reference's, for every string of at most 5000 bytes and all edits. No condition beside the given statement's own.
-/
import Derived.Test.YtkokiggccbkngaaPureInvert
import Derived.Test.YtkokiggccbkngaaPureEditApplies
import Derived.Test.YtkokiggccbkngaaPAllx10
import Derived.Test.YtkokiggccbkngaaPAllx11
namespace Go.Proofs.Ytkokiggccbkngaa.Pure
open Go.RowKit Go.Proofs.Ytkokiggccbkngaa.PAll Go.Proofs.YtkokiggccbkngaaW.PrintWords Go.Proofs.YtkokiggccbkngaaW.PrintLast
theorem invertR_go (s : ByteArray) (l : List S40) (hs : s.size ≤ 140737488355328) (hl : l.length ≤ 64) (hm : ∀ x ∈ l, 0 ≤ x.f0 ∧ x.f0 ≤ x.f1 ∧ x.f1 ≤ (s.size : Int) ∧ x.f2.size ≤ 140737488355328) : ∀ (d i : Nat) (acc : List S40) (m : Int), i + d = l.length → acc.length = i → -(i * 281474976710656 : Int) ≤ m → m ≤ (i * 281474976710656 : Int) →
    Ev (fun k => codesearchref21_Invert.l0 k s l acc m (i : Int)) (invR acc (invS s (lastS acc) m (l.drop i))) := by
  intro d
  induction d with
  | zero =>
    intro i acc m h ha _ _
    refine Ev.step (fun k => by rw [codesearchref21_Invert.l0]) ?_
    have h1 : ¬ ((i : Int) < (l.length : Int)) := by omega
    rw [List.drop_of_length_le (by omega)]
    simp only [if_neg h1, invS, invR, List.append_nil]
    exact Ev.now _
  | succ d IH =>
    intro i acc m h ha b1 b2
    refine Ev.step (fun k => by rw [codesearchref21_Invert.l0]) ?_
    have hi : i < l.length := by omega
    have h1 : (i : Int) < (l.length : Int) := by omega
    have h2 : (0 : Int) ≤ (i : Int) := by omega
    obtain ⟨o1, o2, o3, o4⟩ := hm _ (List.getElem_mem hi)
    rw [List.drop_eq_getElem_cons hi, invS]
    have w1 : wrap64 (l[i].f0 + m) = l[i].f0 + m := wr _ (by omega) (by omega)
    have w2 : wrap64 (l[i].f0 + m + (l[i].f2.size : Int)) = l[i].f0 + m + (l[i].f2.size : Int) := wr _ (by omega) (by omega)
    have w3 : wrap64 (l[i].f1 - l[i].f0) = l[i].f1 - l[i].f0 := wr _ (by omega) (by omega)
    have w4 : wrap64 ((l[i].f2.size : Int) - (l[i].f1 - l[i].f0)) = (l[i].f2.size : Int) - (l[i].f1 - l[i].f0) := wr _ (by omega) (by omega)
    have w5 : wrap64 (m + ((l[i].f2.size : Int) - (l[i].f1 - l[i].f0))) = m + ((l[i].f2.size : Int) - (l[i].f1 - l[i].f0)) := wr _ (by omega) (by omega)
    have hacc : acc.length < 4398046511104 := by omega
    have ih := IH (i + 1) (acc ++ [invE s m l[i]]) (m + ((l[i].f2.size : Int) - (l[i].f1 - l[i].f0))) (by omega) (by simp [ha]) (by omega) (by omega)
    rw [last_snoc, invR_map] at ih
    simp only [if_pos h1, if_pos h2, rd_at l i hi, wrapA, w1, w2, w3, w4, w5, if_pos o1, if_pos o2, if_pos o3, if_pos hacc, up i (by omega)]
    cases i with
    | zero =>
      have z : ¬ ((acc.length : Int) > 0) := by omega
      have e : lastS acc = none := by rw [List.length_eq_zero_iff.1 ha]; rfl
      have e2 : ¬ (none = some (l[0].f0 + m)) := by simp
      rw [e]
      simp only [if_neg z, if_neg e2]
      exact ih
    | succ j =>
      have z : ((acc.length : Int) > 0) := by omega
      have z1 : (0 : Int) ≤ (j : Int) := by omega
      have z2 : (j : Int) < (acc.length : Int) := by omega
      have e : wrap64 ((acc.length : Int) - 1) = (j : Int) := by rw [ha]; exact dn j (by omega)
      rw [last_at acc j ha]
      simp only [if_pos z, e, if_pos z1, if_pos z2, rd_at acc j (by omega)]
      by_cases c : (acc[j]'(by omega)).f0 = l[j + 1].f0 + m
      · simp only [if_pos c, if_pos (congrArg some c)]
        exact Ev.now _
      · have c2 : ¬ (some (acc[j]'(by omega)).f0 = some (l[j + 1].f0 + m)) := fun h => c (Option.some.inj h)
        simp only [if_neg c, if_neg c2]
        exact ih
theorem invertR_ev (s : ByteArray) (l : List S40) (hs : s.size ≤ 140737488355328) (hf : fitS l) : Ev (fun k => codesearchref21_Invert.f k s l) (invertS s l) := by
  unfold codesearchref21_Invert.f invertS
  refine Ev.bind (applyR_ev s l hs hf) ?_
  by_cases c : (applyS s l).2 = 0
  · obtain ⟨c1, _, _⟩ := apply_ok c
    simp only [if_pos c]
    have := invertR_go s l hs (right_len c1) (ok_mem (right_ok (by omega) hf c1)) l.length 0 [] 0 (by omega) rfl (by omega) (by omega)
    rw [List.drop_zero] at this
    exact this
  · simp only [if_neg c]; exact Ev.now _
theorem sizeR_go (l : List S40) (hl : l.length ≤ 4611686018427387903) : ∀ (d i : Nat) (a : Int), i + d = l.length → Ev (fun k => codesearchref21_Size.l0 k l a (i : Int)) (szW a (l.drop i))
  | 0, i, a, h => by
    refine Ev.step (fun k => by rw [codesearchref21_Size.l0]) ?_
    have h1 : ¬ ((i : Int) < (l.length : Int)) := by omega
    rw [List.drop_of_length_le (by omega)]
    simp only [if_neg h1, szW]
    exact Ev.now _
  | d + 1, i, a, h => by
    refine Ev.step (fun k => by rw [codesearchref21_Size.l0]) ?_
    have hi : i < l.length := by omega
    have h1 : (i : Int) < (l.length : Int) := by omega
    have h2 : (0 : Int) ≤ (i : Int) := by omega
    rw [List.drop_eq_getElem_cons hi, szW]
    simp only [if_pos h1, if_pos h2, rd_at l i hi, up i (by omega)]
    exact sizeR_go l hl d (i + 1) _ (by omega)
theorem sizeR_ev (l : List S40) (hl : l.length ≤ 4611686018427387903) : Ev (fun k => codesearchref21_Size.f k l) (szW 0 l) := by
  unfold codesearchref21_Size.f
  have := sizeR_go l hl l.length 0 0 (by omega)
  rw [List.drop_zero] at this
  exact this
theorem inv_len (s : ByteArray) : ∀ (l : List S40) (p : Option Int) (m : Int) (v : List S40), invS s p m l = some v → v.length = l.length
  | [], _, _, v, h => by rw [invS] at h; rw [← Option.some.inj h]
  | x :: r, p, m, v, h => by
    rw [invS] at h
    split at h
    · cases h
    · obtain ⟨u, hu, rfl⟩ := Option.map_eq_some_iff.1 h
      rw [List.length_cons, List.length_cons, inv_len s r _ _ u hu]
theorem EditInverts : ∀ (a0 : ByteArray) (a1 : (List S40)), a0.size ≤ 140737488351232 → (a1.length * 32 ≤ 140737488351232 ∧ ∀ x0 ∈ a1, ((Lit.int .i64 x0.f0).wf = true ∧ (Lit.int .i64 x0.f1).wf = true ∧ x0.f2.size ≤ 140737488351232)) → ∃ k, codesearchlaw21_EditInverts.f k a0 a1 = some true := by
  intro s l hs ⟨hn, hl⟩
  refine Ev.rounds (g := fun k => codesearchlaw21_EditInverts.f k s l) ?_
  unfold codesearchlaw21_EditInverts.f
  refine Ev.bind alive_ev ?_
  simp only [if_true]
  by_cases c : (s.size : Int) > 5000
  · simp only [if_pos c]; exact Ev.now _
  simp only [if_neg c]
  refine Ev.bind (invert_ev s l (by omega) (fit_of hl)) ?_
  refine Ev.bind (invertR_ev s l (by omega) (fit_of hl)) ?_
  have hz : (invertS s l).1.length ≤ 4611686018427387903 := by
    unfold invertS
    split
    · cases h : invS s none 0 l with
      | none => simp [invR]
      | some v => have := inv_len s _ _ _ _ h; show ([] ++ v).length ≤ _; rw [List.nil_append]; omega
    · simp
  simp only [if_true]
  refine Ev.bind (same_ev _ hz) ?_
  simp only [if_true]
  refine Ev.bind (size_ev l (by omega)) ?_
  refine Ev.bind (sizeR_ev l (by omega)) ?_
  simp only [beq_self_eq_true]
  exact Ev.now _
end Go.Proofs.Ytkokiggccbkngaa.Pure
