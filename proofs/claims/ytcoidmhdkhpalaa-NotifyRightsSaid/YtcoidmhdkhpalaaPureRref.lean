/-
  Plain facts on Right of the document of package notify: it gives what the program's Right gives. No program in sight.
-/
import Derived.Test.YtcoidmhdkhpalaaPureRight
import Derived.Test.YtcoidmhdkhpalaaPureWaits
import Derived.Test.YtcoidmhdkhpalaaPAllx27
namespace Go.Proofs.Ytcoidmhdkhpalaa.Pure
open Go.RowKit Go.Proofs.Ytcoidmhdkhpalaa.PAll Go.Proofs.YtcoidmhdkhpalaaW.PrintWords Go.Proofs.YtcoidmhdkhpalaaW.PrintLast
theorem mailB_get {tu b : Int} : ∀ {l : List S38} {i : Nat}, mailB tu b i l = true → ∀ (j : Nat) (h : j < l.length), l[j].f0 = tu ∧ l[j].f1 = b + i + j
  | [], _, _, _, h => absurd h (Nat.not_lt_zero _)
  | m :: r, i, hm, j, h => by
    rw [mailB] at hm
    by_cases c1 : m.f0 = tu
    · rw [if_pos c1] at hm
      by_cases c2 : m.f1 = b + i
      · rw [if_pos c2] at hm
        cases j with
        | zero => exact ⟨c1, by simp; omega⟩
        | succ j =>
          have := mailB_get hm j (by simpa using h)
          refine ⟨this.1, ?_⟩
          rw [List.getElem_cons_succ, this.2]
          omega
      · rw [if_neg c2] at hm; exact absurd hm Bool.false_ne_true
    · rw [if_neg c1] at hm; exact absurd hm Bool.false_ne_true
theorem any_none {mail : List S38} {m : S38} (h : mail.any (isN m.f1) = false) : mail.any (eqL m) = false := by
  rw [List.any_eq_false] at h ⊢
  intro y hy c
  have := eqL_iff.1 c
  subst this
  exact h _ hy (decide_eq_true rfl)
theorem any_at {tu b : Int} {mail : List S38} (hm : mailB tu b 0 mail = true) {m : S38} (h : mail.findIdx (isN m.f1) < mail.length) : mail.any (eqL m) = eqL mail[mail.findIdx (isN m.f1)] m := by
  have hat : mail[mail.findIdx (isN m.f1)].f1 = m.f1 := of_decide_eq_true (List.findIdx_getElem (w := h))
  rw [Bool.eq_iff_iff, List.any_eq_true, eqL_iff]
  constructor
  · rintro ⟨y, hy, c⟩
    have := eqL_iff.1 c
    subst this
    obtain ⟨j, hj, e⟩ := List.getElem_of_mem hy
    have h1 := (mailB_get hm j hj).2
    have h2 := (mailB_get hm _ h).2
    have : j = mail.findIdx (isN m.f1) := by rw [e] at h1; omega
    subst this
    exact e
  · intro e
    exact ⟨_, List.getElem_mem h, eqL_iff.2 e.symm⟩
theorem rr_j4 (tu last u next b : Int) (mail : List S38) (got : List S36) (early : List S38) (hb : mailB tu b 0 mail = true) (hm : mail.length ≤ 1000) (he : early.length ≤ 1000) (i : Nat) (hi : i < early.length) (v : Bool)
    (ih : Ev (fun k => codesearchref49_Right.l1 k ((i + 1 : Nat) : Int) tu last mail u next got early) v) :
    Ev (fun k => codesearchref49_Right.j4 k (i : Int) false tu last mail u next got early) (if mail.any (eqL early[i]) then v else false) := by
  refine Ev.step (fun k => by rw [codesearchref49_Right.j4]) ?_
  have h1 : (i : Int) < (early.length : Int) := by omega
  have h2 : (0 : Int) ≤ (i : Int) := by omega
  simp only [Bool.false_eq_true, if_false, if_pos h1, if_pos h2, rd38 early i hi, up i (by omega), neL_iff]
  refine Ev.bind (waits_ev early[i].f1 mail hm) ?_
  have hid := idxN_find (isN early[i].f1) mail 0
  by_cases c : mail.any (isN early[i].f1) = true
  · rw [if_pos c, Nat.zero_add] at hid
    have hq : mail.findIdx (isN early[i].f1) < mail.length := List.findIdx_lt_length.2 (List.any_eq_true.1 c)
    rw [any_at hb hq, hid, rd38 mail _ hq]
    generalize mail.findIdx (isN early[i].f1) = q at hq
    simp only [if_neg (show ¬ (q : Int) < 0 by omega), if_pos (show (0 : Int) ≤ (q : Int) by omega), if_pos (show (q : Int) < (mail.length : Int) by omega)]
    cases eqL mail[q] early[i]
    · simp only [Bool.not_false, if_true, Bool.false_eq_true, if_false]; exact Ev.now _
    · simp only [Bool.not_true, Bool.false_eq_true, if_false, if_true]; exact ih
  · rw [if_neg c] at hid
    rw [any_none (Bool.eq_false_iff.2 c), hid]
    simp only [if_pos (show (-1 : Int) < 0 by omega), Bool.false_eq_true, if_false]
    exact Ev.now _
theorem rearly_go (tu last u next b : Int) (mail : List S38) (got : List S36) (early : List S38) (hb : mailB tu b 0 mail = true) (hm : mail.length ≤ 1000) (he : early.length ≤ 1000) : ∀ (d i : Nat) (p : Int), i + d = early.length →
    (i = 0 ∧ p = next ∨ ∃ (_ : 0 < i) (h : i - 1 < early.length), p = early[i - 1].f1 ∧ next < p) →
    Ev (fun k => codesearchref49_Right.l1 k (i : Int) tu last mail u next got early) (earlyB mail p (early.drop i) && ((got.length : Int) == wrap64 (next - 1)))
  | 0, i, p, h, hp => by
    refine Ev.step (fun k => by rw [codesearchref49_Right.l1]) ?_
    have h1 : ¬ ((i : Int) < (early.length : Int)) := by omega
    rw [List.drop_of_length_le (by omega), earlyB]
    simp only [if_neg h1, Bool.true_and]
    exact Ev.now _
  | d + 1, i, p, h, hp => by
    refine Ev.step (fun k => by rw [codesearchref49_Right.l1]) ?_
    have hi : i < early.length := by omega
    have h1 : (i : Int) < (early.length : Int) := by omega
    have h2 : (0 : Int) ≤ (i : Int) := by omega
    have bad : Ev (fun k => codesearchref49_Right.j4 k (i : Int) true tu last mail u next got early) false := by
      refine Ev.step (fun k => by rw [codesearchref49_Right.j4]) ?_
      simp only [if_true]
      exact Ev.now _
    have ih := fun (hn : next < early[i].f1) => rearly_go tu last u next b mail got early hb hm he d (i + 1) early[i].f1 (by omega) (.inr ⟨by omega, by omega, rfl, hn⟩)
    rw [List.drop_eq_getElem_cons hi, earlyB]
    simp only [if_pos h1, if_pos h2, rd38 early i hi]
    by_cases c : early[i].f1 ≤ next
    · simp only [if_pos c]
      have c' : early[i].f1 ≤ p := by rcases hp with ⟨_, e⟩ | ⟨_, _, _, e⟩ <;> omega
      rw [if_pos c', Bool.false_and]
      exact bad
    simp only [if_neg c]
    have good := rr_j4 tu last u next b mail got early hb hm he i hi _ (ih (by omega))
    have fin : ∀ (B : Bool), (B = decide (early[i].f1 ≤ p)) → Ev (fun k => codesearchref49_Right.j4 k (i : Int) B tu last mail u next got early) ((if early[i].f1 ≤ p then false else if mail.any (eqL early[i]) = true then earlyB mail early[i].f1 (early.drop (i + 1)) else false) && ((got.length : Int) == wrap64 (next - 1))) := fun B hB => by
      subst hB
      by_cases c2 : early[i].f1 ≤ p
      · rw [if_pos c2, decide_eq_true c2, Bool.false_and]; exact bad
      · rw [if_neg c2, decide_eq_false c2]
        by_cases c3 : mail.any (eqL early[i]) = true
        · rw [if_pos c3] at good ⊢; exact good
        · rw [if_neg c3] at good ⊢; rw [Bool.false_and]; exact good
    rcases hp with ⟨e0, e⟩ | ⟨e0, e1, e, _⟩
    · simp only [if_neg (show ¬ (i : Int) > 0 by omega)]
      exact fin false (decide_eq_false (by omega)).symm
    · have hw : wrap64 ((i : Int) - 1) = ((i - 1 : Nat) : Int) := by unfold wrap64; omega
      simp only [if_pos (show (i : Int) > 0 by omega), hw, if_pos (show (0 : Int) ≤ ((i - 1 : Nat) : Int) by omega), if_pos (show ((i - 1 : Nat) : Int) < (early.length : Int) by omega), rd38 early (i - 1) e1]
      exact fin _ (by rw [e])
theorem rr_j2 (tu last u next b : Int) (mail : List S38) (got : List S36) (early : List S38) (hb : mailB tu b 0 mail = true) (hm : mail.length ≤ 1000) (he : early.length ≤ 1000) (B : Bool) :
    Ev (fun k => codesearchref49_Right.j2 k B tu last mail u next got early) (!B && (earlyB mail next early && ((got.length : Int) == wrap64 (next - 1)))) := by
  refine Ev.step (fun k => by rw [codesearchref49_Right.j2]) ?_
  cases B
  · simp only [Bool.false_eq_true, if_false, Bool.not_false, Bool.true_and]
    have := rearly_go tu last u next b mail got early hb hm he early.length 0 next (by omega) (.inl ⟨rfl, rfl⟩)
    rw [List.drop_zero] at this
    exact this
  · simp only [if_true, Bool.not_true, Bool.false_and]
    exact Ev.now _
theorem rmail_go (tu last u next : Int) (mail : List S38) (got : List S36) (early : List S38) (h0 : 0 ≤ last) (h9 : last ≤ 9999) (hk : (mail.length : Int) ≤ last) (hm : mail.length ≤ 1000) (he : early.length ≤ 1000) (hg : got.length ≤ 1000) :
    ∀ (d i : Nat), i + d = mail.length → (mailB tu (last - mail.length + 1) i (mail.drop i) = true → mailB tu (last - mail.length + 1) 0 mail = true) →
    Ev (fun k => codesearchref49_Right.l0 k (mail.length : Int) (i : Int) tu last mail u next got early) (mailB tu (last - mail.length + 1) i (mail.drop i) && (boundB last next mail.length got.length && earlyB mail next early))
  | 0, i, h, hB => by
    refine Ev.step (fun k => by rw [codesearchref49_Right.l0]) ?_
    have h1 : ¬ ((i : Int) < (mail.length : Int)) := by omega
    rw [List.drop_of_length_le (by omega)] at hB ⊢
    rw [mailB] at hB ⊢
    rw [Bool.true_and]
    have e1 : wrap64 (last + 1) = last + 1 := by unfold wrap64; omega
    simp only [if_neg h1, e1]
    have J := rr_j2 tu last u next _ mail got early (hB rfl) hm he
    unfold boundB
    by_cases c1 : next < 1
    · simp only [if_pos c1]
      have := J true
      rw [decide_eq_false (by omega)]
      exact this
    simp only [if_neg c1]
    by_cases c2 : next > last + 1
    · simp only [if_pos c2]
      have := J true
      rw [decide_eq_false (by omega)]
      exact this
    simp only [if_neg c2]
    have e2 : wrap64 (last + 1 - next) = last + 1 - next := by unfold wrap64; omega
    have e3 : wrap64 (next - 1) = next - 1 := by unfold wrap64; omega
    simp only [e2]
    by_cases c3 : (mail.length : Int) < last + 1 - next
    · simp only [decide_eq_true c3]
      have := J true
      rw [decide_eq_false (by omega)]
      exact this
    simp only [decide_eq_false c3]
    have := J false
    rw [e3] at this
    by_cases c4 : (got.length : Int) = next - 1
    · rw [decide_eq_true (by omega)]
      have e : ((got.length : Int) == next - 1) = true := by simp [c4]
      rw [e, Bool.and_true] at this
      exact this
    · rw [decide_eq_false (by omega)]
      have e : ((got.length : Int) == next - 1) = false := by simp [c4]
      rw [e, Bool.and_false, Bool.and_false] at this
      exact this
  | d + 1, i, h, hB => by
    refine Ev.step (fun k => by rw [codesearchref49_Right.l0]) ?_
    have hi : i < mail.length := by omega
    have h1 : (i : Int) < (mail.length : Int) := by omega
    have h2 : (0 : Int) ≤ (i : Int) := by omega
    have ih := rmail_go tu last u next mail got early h0 h9 hk hm he hg d (i + 1) (by omega)
    rw [List.drop_eq_getElem_cons hi, mailB] at hB ⊢
    simp only [if_pos h1, if_pos h2, rd38 mail i hi, up i (by omega), wrapk last mail.length i h0 h9 hk (by omega)]
    by_cases c : mail[i].f0 = tu
    · rw [if_pos c] at hB ⊢
      simp only [if_pos c]
      by_cases c2 : mail[i].f1 = last - mail.length + 1 + i
      · rw [if_pos c2] at hB ⊢
        simp only [if_pos c2]
        exact ih hB
      · rw [if_neg c2]
        simp only [if_neg c2, Bool.false_and]
        exact Ev.now _
    · rw [if_neg c]
      simp only [if_neg c, Bool.false_and]
      exact Ev.now _
theorem rright_ev (tu last u next : Int) (mail : List S38) (got : List S36) (early : List S38) (hm : mail.length ≤ 1000) (he : early.length ≤ 1000) (hg : got.length ≤ 1000) : Ev (fun k => codesearchref49_Right.f k tu last mail u next got early) (rightB tu last mail u next got early) := by
  have bad : ¬ (tu = u ∧ 0 ≤ last ∧ last ≤ 9999 ∧ (mail.length : Int) ≤ last) → Ev (fun k => codesearchref49_Right.j0 k (mail.length : Int) true tu last mail u next got early) (rightB tu last mail u next got early) := fun h => by
    refine Ev.step (fun k => by rw [codesearchref49_Right.j0]) ?_
    unfold rightB
    rw [decide_eq_false h]
    simp only [if_true, Bool.false_and]
    exact Ev.now _
  unfold codesearchref49_Right.f
  by_cases c0 : tu = u
  · simp only [if_pos c0]
    by_cases c1 : last < 0
    · simp only [if_pos c1]; exact bad fun h => by omega
    simp only [if_neg c1]
    by_cases c2 : last > 9999
    · simp only [if_pos c2]; exact bad fun h => by omega
    simp only [if_neg c2]
    by_cases c3 : (mail.length : Int) > last
    · simp only [decide_eq_true c3]; exact bad fun h => by omega
    simp only [decide_eq_false c3]
    refine Ev.step (fun k => by rw [codesearchref49_Right.j0]) ?_
    unfold rightB
    rw [decide_eq_true ⟨c0, by omega, by omega, by omega⟩]
    simp only [Bool.false_eq_true, if_false, Bool.true_and]
    have := rmail_go tu last u next mail got early (by omega) (by omega) (by omega) hm he hg mail.length 0 (by omega) (fun h => by rw [List.drop_zero] at h; exact h)
    rw [List.drop_zero] at this
    exact this
  · simp only [if_neg c0]
    exact bad fun h => c0 h.1
end Go.Proofs.Ytcoidmhdkhpalaa.Pure
