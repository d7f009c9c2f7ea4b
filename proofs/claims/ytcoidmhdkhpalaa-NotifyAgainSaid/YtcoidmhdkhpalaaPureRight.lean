/-
  Plain facts on Right of package notify and of the document: both give the same. No program in sight.
-/
import Derived.Test.YtcoidmhdkhpalaaPureLib
import Derived.Test.YtcoidmhdkhpalaaPAllx6
import Derived.Test.YtcoidmhdkhpalaaPAllx11
namespace Go.Proofs.Ytcoidmhdkhpalaa.Pure
open Go.RowKit Go.Proofs.Ytcoidmhdkhpalaa.PAll Go.Proofs.YtcoidmhdkhpalaaW.PrintWords Go.Proofs.YtcoidmhdkhpalaaW.PrintLast
theorem ba_list {a b : ByteArray} : a.toList = b.toList ↔ a = b := by
  constructor
  · intro h
    rw [ByteArray.toList_eq, ByteArray.toList_eq] at h
    cases a; cases b
    congr 1
    exact Array.toList_inj.1 h
  · rintro rfl; rfl
theorem s38_ext {a b : S38} : a = b ↔ a.f0 = b.f0 ∧ a.f1 = b.f1 ∧ a.f2.f0 = b.f2.f0 ∧ a.f2.f1 = b.f2.f1 ∧ a.f2.f2 = b.f2.f2 ∧ a.f2.f3 = b.f2.f3 := by
  constructor
  · rintro rfl; exact ⟨rfl, rfl, rfl, rfl, rfl, rfl⟩
  · obtain ⟨a0, a1, ⟨a2, a3, a4, a5⟩⟩ := a
    obtain ⟨b0, b1, ⟨b2, b3, b4, b5⟩⟩ := b
    rintro ⟨h0, h1, h2, h3, h4, h5⟩
    simp only at h0 h1 h2 h3 h4 h5
    subst h0 h1 h2 h3 h4 h5
    rfl
def eqL (m y : S38) : Bool := (m.f0 == y.f0 && (m.f1 == y.f1 && ((m.f2.f0 == y.f2.f0 && (m.f2.f1 == y.f2.f1 && (m.f2.f2.toList == y.f2.f2.toList && (m.f2.f3.toList == y.f2.f3.toList)))))))
theorem eqL_iff {m y : S38} : eqL m y = true ↔ m = y := by
  unfold eqL
  simp only [Bool.and_eq_true, beq_iff_eq, ba_list]
  exact s38_ext.symm
theorem neL_iff {m y : S38} : (!(m.f0 == y.f0) || (!(m.f1 == y.f1) || ((!(m.f2.f0 == y.f2.f0) || (!(m.f2.f1 == y.f2.f1) || (!(m.f2.f2.toList == y.f2.f2.toList) || (!(m.f2.f3.toList == y.f2.f3.toList)))))))) = !eqL m y := by
  unfold eqL
  simp only [Bool.not_and]
theorem has_go (m : S38) (l : List S38) (hl : l.length ≤ 100000) : ∀ (d i : Nat), i + d = l.length → Ev (fun k => api_Letter_43.l0 k l (l.length : Int) (i : Int) m.f0 m.f1 m.f2.f0 m.f2.f1 m.f2.f2 m.f2.f3) (idxN (eqL m) (l.drop i) i)
  | 0, i, h => by
    refine Ev.step (fun k => by rw [api_Letter_43.l0]) ?_
    have h1 : ¬ ((i : Int) < (l.length : Int)) := by omega
    rw [List.drop_of_length_le (by omega)]
    simp only [if_neg h1, idxN]
    exact Ev.now _
  | d + 1, i, h => by
    refine Ev.step (fun k => by rw [api_Letter_43.l0]) ?_
    have hi : i < l.length := by omega
    have h1 : (i : Int) < (l.length : Int) := by omega
    have h2 : (0 : Int) ≤ (i : Int) := by omega
    have ih := has_go m l hl d (i + 1) (by omega)
    rw [List.drop_eq_getElem_cons hi, idxN]
    simp only [if_pos h1, if_pos h2, rd38 l i hi, up i (by omega)]
    by_cases c : eqL m l[i] = true
    · rw [if_pos c]
      unfold eqL at c
      simp only [if_pos c]
      exact Ev.now _
    · rw [if_neg c]
      unfold eqL at c
      simp only [if_neg c]
      exact ih
theorem has_ev (m : S38) (l : List S38) (hl : l.length ≤ 100000) : Ev (fun k => api_Letter_38.f k l m.f0 m.f1 m.f2.f0 m.f2.f1 m.f2.f2 m.f2.f3) (l.any (eqL m)) := by
  have h := has_go m l hl l.length 0 (by omega)
  rw [List.drop_zero] at h
  unfold api_Letter_38.f
  refine Ev.bind (show Ev (fun k => api_Letter_43.f k l m.f0 m.f1 m.f2.f0 m.f2.f1 m.f2.f2 m.f2.f3) _ from h) ?_
  have hi := idxN_find (eqL m) l 0
  by_cases c : l.any (eqL m) = true
  · rw [if_pos c] at hi
    rw [hi, c]
    simp only [decide_eq_true (show ((0 + l.findIdx (eqL m) : Nat) : Int) ≥ 0 by omega)]
    exact Ev.now _
  · rw [if_neg c] at hi
    rw [hi, Bool.eq_false_iff.2 c]
    simp only [decide_eq_false (show ¬ (-1 : Int) ≥ 0 by omega)]
    exact Ev.now _
def earlyB (mail : List S38) : Int → List S38 → Bool
  | _, [] => true
  | p, m :: r => if m.f1 ≤ p then false else if mail.any (eqL m) then earlyB mail m.f1 r else false
def mailB (tu b : Int) : Nat → List S38 → Bool
  | _, [] => true
  | i, m :: r => if m.f0 = tu then (if m.f1 = b + (i : Int) then mailB tu b (i + 1) r else false) else false
def boundB (last next : Int) (k : Nat) (g : Nat) : Bool := decide (1 ≤ next ∧ next ≤ last + 1 ∧ last + 1 - next ≤ (k : Int) ∧ (g : Int) = next - 1)
def rightB (tu last : Int) (mail : List S38) (u next : Int) (got : List S36) (early : List S38) : Bool :=
  decide (tu = u ∧ 0 ≤ last ∧ last ≤ 9999 ∧ (mail.length : Int) ≤ last) && (mailB tu (last - mail.length + 1) 0 mail && (boundB last next mail.length got.length && earlyB mail next early))
theorem early_go (tu last : Int) (mail early : List S38) (hm : mail.length ≤ 100000) (he : early.length ≤ 100000) : ∀ (d i : Nat) (p : Int), i + d = early.length →
    Ev (fun k => notify_Right.l1 k p early (early.length : Int) (i : Int) tu last mail) (earlyB mail p (early.drop i))
  | 0, i, p, h => by
    refine Ev.step (fun k => by rw [notify_Right.l1]) ?_
    have h1 : ¬ ((i : Int) < (early.length : Int)) := by omega
    rw [List.drop_of_length_le (by omega), earlyB]
    simp only [if_neg h1]
    exact Ev.now _
  | d + 1, i, p, h => by
    refine Ev.step (fun k => by rw [notify_Right.l1]) ?_
    have hi : i < early.length := by omega
    have h1 : (i : Int) < (early.length : Int) := by omega
    have h2 : (0 : Int) ≤ (i : Int) := by omega
    have ih := early_go tu last mail early hm he d (i + 1) early[i].f1 (by omega)
    rw [List.drop_eq_getElem_cons hi, earlyB]
    simp only [if_pos h1, if_pos h2, rd38 early i hi, up i (by omega)]
    by_cases c : early[i].f1 ≤ p
    · rw [if_pos c]
      simp only [if_pos c]
      exact Ev.now _
    · rw [if_neg c]
      simp only [if_neg c]
      refine Ev.bind (has_ev early[i] mail hm) ?_
      by_cases c2 : mail.any (eqL early[i]) = true
      · rw [if_pos c2]
        simp only [c2, if_true]
        exact ih
      · rw [if_neg c2]
        simp only [Bool.eq_false_iff.2 c2, Bool.false_eq_true, if_false]
        exact Ev.now _
theorem nj2 (tu last u next : Int) (mail : List S38) (got : List S36) (early : List S38) (hm : mail.length ≤ 100000) (he : early.length ≤ 100000) (b : Bool) :
    Ev (fun k => notify_Right.j2 k b tu last mail u next got early) (!b && earlyB mail next early) := by
  refine Ev.step (fun k => by rw [notify_Right.j2]) ?_
  cases b
  · simp only [Bool.false_eq_true, if_false, Bool.not_false, Bool.true_and]
    have := early_go tu last mail early hm he early.length 0 next (by omega)
    rw [List.drop_zero] at this
    exact this
  · simp only [if_true, Bool.not_true, Bool.false_and]
    exact Ev.now _
theorem wrapk (last : Int) (k i : Nat) (h0 : 0 ≤ last) (h1 : last ≤ 9999) (h2 : (k : Int) ≤ last) (hi : i ≤ k) : wrap64 (wrap64 (wrap64 (last - k) + 1) + i) = last - k + 1 + i := by
  have e1 : wrap64 (last - k) = last - k := by unfold wrap64; omega
  rw [e1]
  have e2 : wrap64 (last - k + 1) = last - k + 1 := by unfold wrap64; omega
  rw [e2]
  unfold wrap64; omega
theorem mail_go (tu last u next : Int) (mail : List S38) (got : List S36) (early : List S38) (h0 : 0 ≤ last) (h9 : last ≤ 9999) (hk : (mail.length : Int) ≤ last) (he : early.length ≤ 100000) (hg : got.length ≤ 100000) :
    ∀ (d i : Nat), i + d = mail.length → Ev (fun k => notify_Right.l0 k (mail.length : Int) mail (mail.length : Int) (i : Int) tu last mail u next got early) (mailB tu (last - mail.length + 1) i (mail.drop i) && (boundB last next mail.length got.length && earlyB mail next early))
  | 0, i, h => by
    refine Ev.step (fun k => by rw [notify_Right.l0]) ?_
    have h1 : ¬ ((i : Int) < (mail.length : Int)) := by omega
    rw [List.drop_of_length_le (by omega), mailB, Bool.true_and]
    have e1 : wrap64 (last + 1) = last + 1 := by unfold wrap64; omega
    simp only [if_neg h1, e1]
    have J := nj2 tu last u next mail got early (by omega) he
    unfold boundB
    by_cases c1 : next < 1
    · simp only [if_pos c1]
      have := J true
      rw [decide_eq_false (by omega)]
      exact this
    simp only [if_neg c1]
    by_cases c2 : next > last + 1
    · simp only [if_pos c2]
      have := J true
      rw [decide_eq_false (by omega)]
      exact this
    simp only [if_neg c2]
    have e2 : wrap64 (last + 1 - next) = last + 1 - next := by unfold wrap64; omega
    have e3 : wrap64 (next - 1) = next - 1 := by unfold wrap64; omega
    simp only [e2, e3]
    by_cases c3 : (mail.length : Int) < last + 1 - next
    · simp only [if_pos c3]
      have := J true
      rw [decide_eq_false (by omega)]
      exact this
    simp only [if_neg c3]
    have := J ((got.length : Int) != next - 1)
    by_cases c4 : (got.length : Int) = next - 1
    · rw [decide_eq_true (by omega)]
      have e : ((got.length : Int) != next - 1) = false := by simp [c4]
      rw [e] at this ⊢
      exact this
    · rw [decide_eq_false (by omega)]
      have e : ((got.length : Int) != next - 1) = true := by simp [c4]
      rw [e] at this ⊢
      exact this
  | d + 1, i, h => by
    refine Ev.step (fun k => by rw [notify_Right.l0]) ?_
    have hi : i < mail.length := by omega
    have h1 : (i : Int) < (mail.length : Int) := by omega
    have h2 : (0 : Int) ≤ (i : Int) := by omega
    have ih := mail_go tu last u next mail got early h0 h9 hk he hg d (i + 1) (by omega)
    rw [List.drop_eq_getElem_cons hi, mailB]
    simp only [if_pos h1, if_pos h2, rd38 mail i hi, up i (by omega), wrapk last mail.length i h0 h9 hk (by omega)]
    by_cases c : mail[i].f0 = tu
    · rw [if_pos c]
      simp only [if_pos c]
      by_cases c2 : mail[i].f1 = last - mail.length + 1 + i
      · rw [if_pos c2]
        simp only [if_pos c2]
        exact ih
      · rw [if_neg c2]
        simp only [if_neg c2, Bool.false_and]
        exact Ev.now _
    · rw [if_neg c]
      simp only [if_neg c, Bool.false_and]
      exact Ev.now _
theorem right_ev (tu last u next : Int) (mail : List S38) (got : List S36) (early : List S38) (_hm : mail.length ≤ 100000) (he : early.length ≤ 100000) (hg : got.length ≤ 100000) : Ev (fun k => notify_Right.f k tu last mail u next got early) (rightB tu last mail u next got early) := by
  have bad : ¬ (tu = u ∧ 0 ≤ last ∧ last ≤ 9999 ∧ (mail.length : Int) ≤ last) → Ev (fun k => notify_Right.j0 k (mail.length : Int) true tu last mail u next got early) (rightB tu last mail u next got early) := fun h => by
    refine Ev.step (fun k => by rw [notify_Right.j0]) ?_
    unfold rightB
    rw [decide_eq_false h]
    simp only [if_true, Bool.false_and]
    exact Ev.now _
  unfold notify_Right.f
  by_cases c0 : tu = u
  · simp only [if_pos c0]
    by_cases c1 : last < 0
    · simp only [if_pos c1]; exact bad fun h => by omega
    simp only [if_neg c1]
    by_cases c2 : last > 9999
    · simp only [if_pos c2]; exact bad fun h => by omega
    simp only [if_neg c2]
    by_cases c3 : (mail.length : Int) > last
    · simp only [decide_eq_true c3]; exact bad fun h => by omega
    simp only [decide_eq_false c3]
    refine Ev.step (fun k => by rw [notify_Right.j0]) ?_
    unfold rightB
    rw [decide_eq_true ⟨c0, by omega, by omega, by omega⟩]
    simp only [Bool.false_eq_true, if_false, Bool.true_and]
    have := mail_go tu last u next mail got early (by omega) (by omega) (by omega) he hg mail.length 0 (by omega)
    rw [List.drop_zero] at this
    exact this
  · simp only [if_neg c0]
    exact bad fun h => c0 h.1
end Go.Proofs.Ytcoidmhdkhpalaa.Pure
