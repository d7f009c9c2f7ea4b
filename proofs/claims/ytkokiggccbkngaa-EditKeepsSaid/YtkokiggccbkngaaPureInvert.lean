/-
  Invert of package edit in plain words.
-/
import Derived.Test.YtkokiggccbkngaaPureMove
namespace Go.Proofs.Ytkokiggccbkngaa.Pure
open Go.RowKit Go.Proofs.Ytkokiggccbkngaa.PAll Go.Proofs.YtkokiggccbkngaaW.PrintWords Go.Proofs.YtkokiggccbkngaaW.PrintLast
def invE (s : ByteArray) (m : Int) (x : S40) : S40 := ⟨x.f0 + m, x.f0 + m + (x.f2.size : Int), s.extract x.f0.toNat x.f1.toNat⟩
def invS (s : ByteArray) : Option Int → Int → List S40 → Option (List S40)
  | _, _, [] => some []
  | p, m, x :: r => if p = some (x.f0 + m) then none else (invS s (some (x.f0 + m)) (m + ((x.f2.size : Int) - (x.f1 - x.f0))) r).map fun v => invE s m x :: v
def invR (acc : List S40) : Option (List S40) → List S40 × Int
  | none => ([], 14)
  | some v => (acc ++ v, 0)
def invertS (s : ByteArray) (l : List S40) : List S40 × Int := if (applyS s l).2 = 0 then invR [] (invS s none 0 l) else ([], (applyS s l).2)
def lastS (acc : List S40) : Option Int := acc.getLast?.map (·.f0)
theorem last_snoc (acc : List S40) (x : S40) : lastS (acc ++ [x]) = some x.f0 := by simp [lastS]
theorem last_at (acc : List S40) (j : Nat) (h : acc.length = j + 1) : lastS acc = some (acc[j]'(by omega)).f0 := by
  unfold lastS
  have e : acc.length - 1 = j := by omega
  rw [List.getLast?_eq_getElem?, e]
  simp [List.getElem?_eq_getElem (show j < acc.length by omega)]
theorem invR_map (acc : List S40) (x : S40) (o : Option (List S40)) : invR (acc ++ [x]) o = invR acc (o.map fun v => x :: v) := by
  cases o with
  | none => rfl
  | some v => simp [invR]
theorem invert_go (s : ByteArray) (l : List S40) (hs : s.size ≤ 140737488355328) (hl : l.length ≤ 64) (hm : ∀ x ∈ l, 0 ≤ x.f0 ∧ x.f0 ≤ x.f1 ∧ x.f1 ≤ (s.size : Int) ∧ x.f2.size ≤ 140737488355328) : ∀ (d i : Nat) (acc : List S40) (m : Int), i + d = l.length → acc.length = i → -(i * 281474976710656 : Int) ≤ m → m ≤ (i * 281474976710656 : Int) →
    Ev (fun k => edit_Invert.l0 k s acc m l (l.length : Int) (i : Int)) (invR acc (invS s (lastS acc) m (l.drop i))) := by
  intro d
  induction d with
  | zero =>
    intro i acc m h ha _ _
    refine Ev.step (fun k => by rw [edit_Invert.l0]) ?_
    have h1 : ¬ ((i : Int) < (l.length : Int)) := by omega
    rw [List.drop_of_length_le (by omega)]
    simp only [if_neg h1, invS, invR, List.append_nil]
    exact Ev.now _
  | succ d IH =>
    intro i acc m h ha b1 b2
    refine Ev.step (fun k => by rw [edit_Invert.l0]) ?_
    have hi : i < l.length := by omega
    have h1 : (i : Int) < (l.length : Int) := by omega
    have h2 : (0 : Int) ≤ (i : Int) := by omega
    obtain ⟨o1, o2, o3, o4⟩ := hm _ (List.getElem_mem hi)
    rw [List.drop_eq_getElem_cons hi, invS]
    have w1 : wrap64 (l[i].f0 + m) = l[i].f0 + m := wr _ (by omega) (by omega)
    have w2 : wrap64 (l[i].f0 + m + (l[i].f2.size : Int)) = l[i].f0 + m + (l[i].f2.size : Int) := wr _ (by omega) (by omega)
    have w3 : wrap64 (l[i].f1 - l[i].f0) = l[i].f1 - l[i].f0 := wr _ (by omega) (by omega)
    have w4 : wrap64 ((l[i].f2.size : Int) - (l[i].f1 - l[i].f0)) = (l[i].f2.size : Int) - (l[i].f1 - l[i].f0) := wr _ (by omega) (by omega)
    have w5 : wrap64 (m + ((l[i].f2.size : Int) - (l[i].f1 - l[i].f0))) = m + ((l[i].f2.size : Int) - (l[i].f1 - l[i].f0)) := wr _ (by omega) (by omega)
    have hacc : acc.length < 4398046511104 := by omega
    have ih := IH (i + 1) (acc ++ [invE s m l[i]]) (m + ((l[i].f2.size : Int) - (l[i].f1 - l[i].f0))) (by omega) (by simp [ha]) (by omega) (by omega)
    rw [last_snoc, invR_map] at ih
    simp only [if_pos h1, if_pos h2, rd_at l i hi, w1, w2, w3, w4, w5, if_pos o1, if_pos o2, if_pos o3, if_pos hacc, up i (by omega)]
    cases i with
    | zero =>
      have z : ¬ (((0 : Nat) : Int) > 0) := by omega
      have e : lastS acc = none := by rw [List.length_eq_zero_iff.1 ha]; rfl
      have e2 : ¬ (none = some (l[0].f0 + m)) := by simp
      rw [e]
      simp only [if_neg z, if_neg e2]
      exact ih
    | succ j =>
      have z : (((j + 1 : Nat) : Int) > 0) := by omega
      have z1 : (0 : Int) ≤ (j : Int) := by omega
      have z2 : (j : Int) < (acc.length : Int) := by omega
      rw [last_at acc j ha]
      simp only [if_pos z, dn j (by omega), if_pos z1, if_pos z2, rd_at acc j (by omega)]
      by_cases c : (acc[j]'(by omega)).f0 = l[j + 1].f0 + m
      · simp only [if_pos c, if_pos (congrArg some c)]
        exact Ev.now _
      · have c2 : ¬ (some (acc[j]'(by omega)).f0 = some (l[j + 1].f0 + m)) := fun h => c (Option.some.inj h)
        simp only [if_neg c, if_neg c2]
        exact ih
theorem apply_ok {s : ByteArray} {l : List S40} (h : (applyS s l).2 = 0) : rightS s.size l = 0 ∧ ¬ szE s.size l > 4000 ∧ applyS s l = (bldE s 0 l, 0) := by
  unfold applyS at h ⊢
  by_cases c : rightS s.size l = 0
  · rw [if_pos c] at h ⊢
    by_cases c2 : szE s.size l > 4000
    · rw [if_pos c2] at h; simp at h
    · rw [if_neg c2]; exact ⟨c, c2, rfl⟩
  · rw [if_neg c] at h; exact absurd h c
theorem invert_ev (s : ByteArray) (l : List S40) (hs : s.size ≤ 140737488355328) (hf : fitS l) : Ev (fun k => edit_Invert.f k s l) (invertS s l) := by
  unfold edit_Invert.f invertS
  refine Ev.bind (apply_ev s l hs hf) ?_
  by_cases c : (applyS s l).2 = 0
  · obtain ⟨c1, _, _⟩ := apply_ok c
    simp only [if_pos c]
    have := invert_go s l hs (right_len c1) (ok_mem (right_ok (by omega) hf c1)) l.length 0 [] 0 (by omega) rfl (by omega) (by omega)
    rw [List.drop_zero] at this
    exact this
  · simp only [if_neg c]; exact Ev.now _
end Go.Proofs.Ytkokiggccbkngaa.Pure
