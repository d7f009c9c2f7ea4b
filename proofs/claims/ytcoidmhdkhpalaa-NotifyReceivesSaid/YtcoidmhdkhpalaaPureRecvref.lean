/-
  Plain facts on Receive of the document: it gives what the program's Receive gives. No program in sight.
-/
import Derived.Test.YtcoidmhdkhpalaaPureWaits
import Derived.Test.YtcoidmhdkhpalaaPAllx21
namespace Go.Proofs.Ytcoidmhdkhpalaa.Pure
open Go.RowKit Go.Proofs.Ytcoidmhdkhpalaa.PAll Go.Proofs.YtcoidmhdkhpalaaW.PrintWords Go.Proofs.YtcoidmhdkhpalaaW.PrintLast
theorem put_done (m : S38) (l : List S38) (hl : l.length ≤ 1000) : ∀ (d i : Nat) (out : List S38), i + d = l.length → out.length ≤ i + 1 →
    Ev (fun k => codesearchref49_put.l0 k l out true (i : Int) m.f0 m.f1 m.f2.f0 m.f2.f1 m.f2.f2 m.f2.f3) (out ++ l.drop i)
  | 0, i, out, h, ho => by
    refine Ev.step (fun k => by rw [codesearchref49_put.l0]) ?_
    have h1 : ¬ ((i : Int) < (l.length : Int)) := by omega
    rw [List.drop_of_length_le (by omega), List.append_nil]
    simp only [if_neg h1, if_true]
    exact Ev.now _
  | d + 1, i, out, h, ho => by
    refine Ev.step (fun k => by rw [codesearchref49_put.l0]) ?_
    have hi : i < l.length := by omega
    have h1 : (i : Int) < (l.length : Int) := by omega
    have h2 : (0 : Int) ≤ (i : Int) := by omega
    have ih := put_done m l hl d (i + 1) (out ++ [l[i]]) (by omega) (by simp; omega)
    rw [List.drop_eq_getElem_cons hi]
    simp only [if_pos h1, if_pos h2, if_true, rd38 l i hi, up i (by omega), if_pos (show out.length < 2199023255552 by omega)]
    rw [List.append_assoc] at ih
    exact ih
theorem put_go (m : S38) (l : List S38) (hl : l.length ≤ 1000) : ∀ (d i : Nat) (out : List S38), i + d = l.length → out.length ≤ i →
    Ev (fun k => codesearchref49_put.l0 k l out false (i : Int) m.f0 m.f1 m.f2.f0 m.f2.f1 m.f2.f2 m.f2.f3) (out ++ insL m (l.drop i))
  | 0, i, out, h, ho => by
    refine Ev.step (fun k => by rw [codesearchref49_put.l0]) ?_
    have h1 : ¬ ((i : Int) < (l.length : Int)) := by omega
    rw [List.drop_of_length_le (by omega)]
    simp only [if_neg h1, Bool.false_eq_true, if_false, if_pos (show out.length < 2199023255552 by omega), insL]
    exact Ev.now _
  | d + 1, i, out, h, ho => by
    refine Ev.step (fun k => by rw [codesearchref49_put.l0]) ?_
    have hi : i < l.length := by omega
    have h1 : (i : Int) < (l.length : Int) := by omega
    have h2 : (0 : Int) ≤ (i : Int) := by omega
    rw [List.drop_eq_getElem_cons hi, insL]
    simp only [if_pos h1, if_pos h2, Bool.false_eq_true, if_false, rd38 l i hi, up i (by omega), if_pos (show out.length < 2199023255552 by omega)]
    by_cases c : m.f1 < l[i].f1
    · rw [if_pos c]
      simp only [if_pos (show l[i].f1 > m.f1 from c)]
      refine Ev.bind (Ev.now _) ?_
      simp only [List.length_append, List.length_singleton, if_pos (show out.length + 1 < 2199023255552 by omega)]
      have := put_done m l hl d (i + 1) ((out ++ [m]) ++ [l[i]]) (by omega) (by simp; omega)
      rw [show out ++ [m] ++ [l[i]] ++ l.drop (i + 1) = out ++ m :: l[i] :: l.drop (i + 1) by simp] at this
      exact this
    · rw [if_neg c]
      simp only [if_neg (show ¬ l[i].f1 > m.f1 from c)]
      have ih := put_go m l hl d (i + 1) (out ++ [l[i]]) (by omega) (by simp; omega)
      rw [List.append_assoc] at ih
      exact ih
theorem put_ev (m : S38) (l : List S38) (hl : l.length ≤ 1000) : Ev (fun k => codesearchref49_put.f k l m.f0 m.f1 m.f2.f0 m.f2.f1 m.f2.f2 m.f2.f3) (insL m l) := by
  have := put_go m l hl l.length 0 [] (by omega) (by simp)
  rw [List.drop_zero, List.nil_append] at this
  exact this
theorem without_go (q : Nat) (l : List S38) (hl : l.length ≤ 1000) : ∀ (d i : Nat) (out : List S38), i + d = l.length → out.length ≤ i →
    Ev (fun k => codesearchref49_without.l0 k l (q : Int) out (i : Int)) (out ++ (if i ≤ q then (l.drop i).take (q - i) ++ l.drop (q + 1) else l.drop i))
  | 0, i, out, h, ho => by
    refine Ev.step (fun k => by rw [codesearchref49_without.l0]) ?_
    have h1 : ¬ ((i : Int) < (l.length : Int)) := by omega
    simp only [if_neg h1]
    have e : (if i ≤ q then (l.drop i).take (q - i) ++ l.drop (q + 1) else l.drop i) = [] := by
      split
      · rw [List.drop_of_length_le (by omega), List.drop_of_length_le (by omega)]; simp
      · exact List.drop_of_length_le (by omega)
    rw [e, List.append_nil]
    exact Ev.now _
  | d + 1, i, out, h, ho => by
    refine Ev.step (fun k => by rw [codesearchref49_without.l0]) ?_
    have hi : i < l.length := by omega
    have h1 : (i : Int) < (l.length : Int) := by omega
    have h2 : (0 : Int) ≤ (i : Int) := by omega
    simp only [if_pos h1, if_pos h2, rd38 l i hi, up i (by omega), if_pos (show out.length < 2199023255552 by omega)]
    by_cases c : i = q
    · subst c
      simp only [if_true]
      have ih := without_go i l hl d (i + 1) out (by omega) (by omega)
      rw [if_neg (by omega)] at ih
      rw [if_pos (Nat.le_refl _), Nat.sub_self, List.take_zero, List.nil_append]
      exact ih
    · simp only [if_neg (show ¬ (i : Int) = (q : Int) by omega)]
      have ih := without_go q l hl d (i + 1) (out ++ [l[i]]) (by omega) (by simp; omega)
      rw [List.append_assoc] at ih
      by_cases c2 : i ≤ q
      · rw [if_pos (by omega)] at ih
        rw [if_pos c2, List.drop_eq_getElem_cons hi, show q - i = (q - (i + 1)) + 1 by omega, List.take_succ_cons]
        exact ih
      · rw [if_neg (by omega)] at ih
        rw [if_neg c2, List.drop_eq_getElem_cons hi]
        exact ih
theorem without_ev (q : Nat) (l : List S38) (hl : l.length ≤ 1000) : Ev (fun k => codesearchref49_without.f k l (q : Int)) (l.take q ++ l.drop (q + 1)) := by
  have := without_go q l hl l.length 0 [] (by omega) (by simp)
  rw [if_pos (Nat.zero_le _), List.drop_zero, List.nil_append, Nat.sub_zero] at this
  exact this
theorem acceptL_next {n : Int} {g : List S36} {e : List S38} (h : e.any (isN n) = true) : acceptL e.length n g e = acceptL (e.length - 1) (wrap64 (n + 1)) (g ++ [(e.getD (e.findIdx (isN n)) z38).f2]) (e.take (e.findIdx (isN n)) ++ e.drop (e.findIdx (isN n) + 1)) := by
  have hl : 0 < e.length := by
    cases e with
    | nil => simp at h
    | cons x r => simp
  obtain ⟨m, hm⟩ : ∃ m, e.length = m + 1 := ⟨e.length - 1, by omega⟩
  rw [hm, acceptL]
  exact if_pos h
theorem l2_go (u : Int) : ∀ (d : Nat) (e : List S38) (n : Int) (g : List S36), e.length = d → g.length + e.length ≤ 1000 →
    Ev (fun k => codesearchref49_Receive.l2 k (idxN (isN n) e 0) u n g e) (u, (acceptL e.length n g e).1, (acceptL e.length n g e).2.1, (acceptL e.length n g e).2.2, wrap64 ((acceptL e.length n g e).1 - 1)) := by
  intro d
  induction d with
  | zero =>
    intro e n g he hl
    have he : e = [] := List.length_eq_zero_iff.1 he
    subst he
    refine Ev.step (fun k => by rw [codesearchref49_Receive.l2]) ?_
    simp only [idxN]
    exact Ev.now _
  | succ d ih =>
    intro e n g he hl
    refine Ev.step (fun k => by rw [codesearchref49_Receive.l2]) ?_
    have hi := idxN_find (isN n) e 0
    by_cases c : e.any (isN n) = true
    · rw [if_pos c, Nat.zero_add] at hi
      have hq : e.findIdx (isN n) < e.length := List.findIdx_lt_length.2 (by simpa using c)
      have hx : rd_T38 e ((e.findIdx (isN n) : Nat) : Int) = e.getD (e.findIdx (isN n)) z38 := rfl
      rw [acceptL_next c, hi]
      have hlen := cut_len hq
      generalize e.findIdx (isN n) = q at hi hq hx hlen
      have h0 : (0 : Int) ≤ (q : Int) := by omega
      have h1 : (q : Int) < (e.length : Int) := by omega
      simp only [if_pos (show (q : Int) ≥ 0 from h0), if_pos h1, if_pos (show g.length < 2932031007402 by omega)]
      refine Ev.bind (without_ev q e (by omega)) (Ev.bind (waits_ev _ _ (by omega)) ?_)
      have := ih (e.take q ++ e.drop (q + 1)) (wrap64 (n + 1)) (g ++ [(e.getD q z38).f2]) (by omega) (by rw [hlen]; simp; omega)
      rw [hlen] at this
      exact this
    · rw [if_neg c] at hi
      have hs := acceptL_stop (g := g) (Bool.eq_false_iff.2 c) e.length
      rw [hs, hi]
      simp only [if_neg (show ¬ (-1 : Int) ≥ 0 by omega)]
      exact Ev.now _
theorem rj2 (u n : Int) (g0 : List S36) (e0 : List S38) (g : List S36) (e : List S38) (m : S38) (hl : g.length + e.length ≤ 900) (b : Bool) (hb : b = decide (m.f0 ≠ u ∨ m.f1 < n)) :
    Ev (fun k => codesearchref49_Receive.j2 k b u n g0 e0 m.f0 m.f1 m.f2.f0 m.f2.f1 m.f2.f2 m.f2.f3 u n g e) (recvR u n g e m) := by
  refine Ev.step (fun k => by rw [codesearchref49_Receive.j2]) ?_
  unfold recvR
  by_cases c : m.f0 ≠ u ∨ m.f1 < n
  · rw [hb, decide_eq_true c, if_pos c]
    simp only [if_true]
    exact Ev.now _
  rw [hb, decide_eq_false c, if_neg c]
  simp only [Bool.false_eq_true, if_false]
  by_cases c2 : n < m.f1
  · rw [if_pos c2]
    simp only [if_pos (show m.f1 > n from c2)]
    refine Ev.bind (waits_ev _ _ (by omega)) ?_
    have hi := idxN_find (isN m.f1) e 0
    rw [waitL_eq]
    by_cases c3 : e.any (isN m.f1) = true
    · rw [if_pos c3] at hi
      rw [if_pos c3, hi]
      simp only [if_neg (show ¬ ((0 + e.findIdx (isN m.f1) : Nat) : Int) < 0 by omega)]
      exact Ev.now _
    · rw [if_neg c3] at hi
      rw [if_neg c3, hi]
      simp only [if_pos (show (-1 : Int) < 0 by omega)]
      exact Ev.bind (put_ev m e (by omega)) (Ev.now _)
  · rw [if_neg c2]
    simp only [if_neg (show ¬ m.f1 > n from c2), if_pos (show g.length < 2932031007402 by omega)]
    refine Ev.bind (waits_ev _ _ (by omega)) ?_
    exact l2_go u e.length e (wrap64 (n + 1)) (g ++ [m.f2]) rfl (by simp; omega)
theorem rl1_go (u n : Int) (g0 : List S36) (e0 : List S38) (g : List S36) (m : S38) (hl : g.length + e0.length ≤ 900) : ∀ (d i : Nat) (e : List S38), i + d = e0.length → e.length ≤ i →
    Ev (fun k => codesearchref49_Receive.l1 k (i : Int) u n g0 e0 m.f0 m.f1 m.f2.f0 m.f2.f1 m.f2.f2 m.f2.f3 u n g e) (recvR u n g (e ++ e0.drop i) m)
  | 0, i, e, h, ho => by
    refine Ev.step (fun k => by rw [codesearchref49_Receive.l1]) ?_
    have h1 : ¬ ((i : Int) < (e0.length : Int)) := by omega
    rw [List.drop_of_length_le (by omega), List.append_nil]
    simp only [if_neg h1]
    by_cases c : m.f0 = u
    · simp only [if_pos c]
      exact rj2 u n g0 e0 g e m (by omega) _ (by simp [c])
    · simp only [if_neg c]
      exact rj2 u n g0 e0 g e m (by omega) _ (by simp [c])
  | d + 1, i, e, h, ho => by
    refine Ev.step (fun k => by rw [codesearchref49_Receive.l1]) ?_
    have hi : i < e0.length := by omega
    have h1 : (i : Int) < (e0.length : Int) := by omega
    have h2 : (0 : Int) ≤ (i : Int) := by omega
    have ih := rl1_go u n g0 e0 g m hl d (i + 1) (e ++ [e0[i]]) (by omega) (by simp; omega)
    rw [List.drop_eq_getElem_cons hi]
    simp only [if_pos h1, if_pos h2, rd38 e0 i hi, up i (by omega), if_pos (show e.length < 2199023255552 by omega)]
    rw [List.append_assoc] at ih
    exact ih
theorem rl0_go (u n : Int) (g0 : List S36) (e0 : List S38) (m : S38) (hl : g0.length + e0.length ≤ 900) : ∀ (d i : Nat) (g : List S36), i + d = g0.length → g.length ≤ i →
    Ev (fun k => codesearchref49_Receive.l0 k (i : Int) u n g0 e0 m.f0 m.f1 m.f2.f0 m.f2.f1 m.f2.f2 m.f2.f3 u n g) (recvR u n (g ++ g0.drop i) e0 m)
  | 0, i, g, h, ho => by
    refine Ev.step (fun k => by rw [codesearchref49_Receive.l0]) ?_
    have h1 : ¬ ((i : Int) < (g0.length : Int)) := by omega
    rw [List.drop_of_length_le (by omega), List.append_nil]
    simp only [if_neg h1]
    have := rl1_go u n g0 e0 g m (by omega) e0.length 0 [] (by omega) (by simp)
    rw [List.drop_zero, List.nil_append] at this
    exact this
  | d + 1, i, g, h, ho => by
    refine Ev.step (fun k => by rw [codesearchref49_Receive.l0]) ?_
    have hi : i < g0.length := by omega
    have h1 : (i : Int) < (g0.length : Int) := by omega
    have h2 : (0 : Int) ≤ (i : Int) := by omega
    have ih := rl0_go u n g0 e0 m hl d (i + 1) (g ++ [g0[i]]) (by omega) (by simp; omega)
    rw [List.drop_eq_getElem_cons hi]
    simp only [if_pos h1, if_pos h2, rd36 g0 i hi, up i (by omega), if_pos (show g.length < 2932031007402 by omega)]
    rw [List.append_assoc] at ih
    exact ih
theorem rrecv_ev (u n : Int) (g : List S36) (e : List S38) (m : S38) (hl : g.length + e.length ≤ 900) : Ev (fun k => codesearchref49_Receive.f k u n g e m.f0 m.f1 m.f2.f0 m.f2.f1 m.f2.f2 m.f2.f3) (recvR u n g e m) := by
  have := rl0_go u n g e m hl g.length 0 [] (by omega) (by simp)
  rw [List.drop_zero, List.nil_append] at this
  exact this
end Go.Proofs.Ytcoidmhdkhpalaa.Pure
