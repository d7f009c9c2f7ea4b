/-
  What Right of package notify says, in plain words. No program in sight.
-/
import Derived.Test.YtcoidmhdkhpalaaPureRight
import Derived.Test.YtcoidmhdkhpalaaPureRecv
import Derived.Test.YtcoidmhdkhpalaaPAllx29
namespace Go.Proofs.Ytcoidmhdkhpalaa.Pure
open Go.RowKit Go.Proofs.Ytcoidmhdkhpalaa.PAll Go.Proofs.YtcoidmhdkhpalaaW.PrintWords Go.Proofs.YtcoidmhdkhpalaaW.PrintLast
abbrev Srt (E : List S38) : Prop := E.Pairwise fun x y => x.f1 < y.f1
structure RInv (tu last : Int) (mail : List S38) (next : Int) (got : List S36) (early : List S38) : Prop where
  l0 : 0 ≤ last
  l9 : last ≤ 9999
  kl : (mail.length : Int) ≤ last
  nums : ∀ j (h : j < mail.length), mail[j].f0 = tu ∧ mail[j].f1 = last - mail.length + 1 + j
  n1 : 1 ≤ next
  nl : next ≤ last + 1
  nk : last + 1 - next ≤ mail.length
  gl : (got.length : Int) = next - 1
  srt : Srt early
  ems : ∀ m ∈ early, next < m.f1 ∧ m ∈ mail
theorem mailB_of {tu b : Int} : ∀ {l : List S38} {i : Nat}, (∀ (j : Nat) (h : j < l.length), l[j].f0 = tu ∧ l[j].f1 = b + i + j) → mailB tu b i l = true
  | [], _, _ => rfl
  | m :: r, i, h => by
    have h0 := h 0 (by simp)
    rw [List.getElem_cons_zero] at h0
    rw [mailB, if_pos h0.1, if_pos (by rw [h0.2]; simp)]
    refine mailB_of fun j hj => ?_
    have := h (j + 1) (by simp; omega)
    rw [List.getElem_cons_succ] at this
    exact ⟨this.1, by rw [this.2]; omega⟩
theorem mailB_get {tu b : Int} : ∀ {l : List S38} {i : Nat}, mailB tu b i l = true → ∀ (j : Nat) (h : j < l.length), l[j].f0 = tu ∧ l[j].f1 = b + i + j
  | [], _, _, _, h => absurd h (Nat.not_lt_zero _)
  | m :: r, i, hm, j, h => by
    rw [mailB] at hm
    by_cases c1 : m.f0 = tu
    · rw [if_pos c1] at hm
      by_cases c2 : m.f1 = b + i
      · rw [if_pos c2] at hm
        cases j with
        | zero => exact ⟨c1, by simp; omega⟩
        | succ j =>
          have := mailB_get hm j (by simpa using h)
          refine ⟨this.1, ?_⟩
          rw [List.getElem_cons_succ, this.2]
          omega
      · rw [if_neg c2] at hm; exact absurd hm Bool.false_ne_true
    · rw [if_neg c1] at hm; exact absurd hm Bool.false_ne_true
theorem earlyB_of {mail : List S38} : ∀ {E : List S38} {p : Int}, Srt E → (∀ m ∈ E, p < m.f1 ∧ m ∈ mail) → earlyB mail p E = true
  | [], _, _, _ => rfl
  | m :: r, p, hs, h => by
    have h0 := h m List.mem_cons_self
    have hp := List.pairwise_cons.1 hs
    rw [earlyB, if_neg (by omega), if_pos (List.any_eq_true.2 ⟨m, h0.2, eqL_iff.2 rfl⟩)]
    exact earlyB_of hp.2 fun y hy => ⟨hp.1 y hy, (h y (List.mem_cons_of_mem _ hy)).2⟩
theorem earlyB_get {mail : List S38} : ∀ {E : List S38} {p : Int}, earlyB mail p E = true → Srt E ∧ ∀ m ∈ E, p < m.f1 ∧ m ∈ mail
  | [], _, _ => ⟨List.Pairwise.nil, fun m h => absurd h List.not_mem_nil⟩
  | m :: r, p, h => by
    rw [earlyB] at h
    by_cases c1 : m.f1 ≤ p
    · rw [if_pos c1] at h; exact absurd h Bool.false_ne_true
    rw [if_neg c1] at h
    by_cases c2 : mail.any (eqL m) = true
    · rw [if_pos c2] at h
      obtain ⟨hs, hm⟩ := earlyB_get h
      obtain ⟨y, hy, e⟩ := List.any_eq_true.1 c2
      have e := eqL_iff.1 e
      subst e
      refine ⟨List.pairwise_cons.2 ⟨fun y hy => (hm y hy).1, hs⟩, fun y hy => ?_⟩
      rcases List.mem_cons.1 hy with e | e
      · subst e; exact ⟨by omega, ‹_›⟩
      · exact ⟨by have := (hm y e).1; omega, (hm y e).2⟩
    · rw [if_neg c2] at h; exact absurd h Bool.false_ne_true
theorem right_of {tu last : Int} {mail : List S38} {next : Int} {got : List S36} {early : List S38} (I : RInv tu last mail next got early) : rightB tu last mail tu next got early = true := by
  obtain ⟨l0, l9, kl, nums, n1, nl, nk, gl, srt, ems⟩ := I
  unfold rightB boundB
  rw [decide_eq_true ⟨rfl, l0, l9, kl⟩, mailB_of (fun j h => by have := nums j h; exact ⟨this.1, by rw [this.2]; omega⟩), earlyB_of srt ems, decide_eq_true ⟨n1, nl, nk, gl⟩]
  rfl
theorem right_get {tu last : Int} {mail : List S38} {u next : Int} {got : List S36} {early : List S38} (h : rightB tu last mail u next got early = true) : tu = u ∧ RInv tu last mail next got early := by
  unfold rightB boundB at h
  simp only [Bool.and_eq_true] at h
  obtain ⟨h1, h2, h3, h4⟩ := h
  have h1 := of_decide_eq_true h1
  have h3 := of_decide_eq_true h3
  have h4 := earlyB_get h4
  exact ⟨h1.1, h1.2.1, h1.2.2.1, h1.2.2.2, fun j hj => by have := mailB_get h2 j hj; exact ⟨this.1, by rw [this.2]; omega⟩, h3.1, h3.2.1, h3.2.2.1, h3.2.2.2, h4.1, h4.2⟩
theorem insL_mem (m : S38) : ∀ (l : List S38) (y : S38), y ∈ insL m l ↔ y = m ∨ y ∈ l
  | [], y => by simp [insL]
  | x :: r, y => by
    rw [insL]
    split
    · simp
    · rw [List.mem_cons, insL_mem m r y, List.mem_cons]
      constructor
      · rintro (h | h | h) <;> simp [h]
      · rintro (h | h | h) <;> simp [h]
theorem insL_srt (m : S38) : ∀ (l : List S38), Srt l → (∀ y ∈ l, y.f1 ≠ m.f1) → Srt (insL m l)
  | [], _, _ => by simp [insL, Srt]
  | x :: r, hs, hn => by
    have h := List.pairwise_cons.1 hs
    rw [insL]
    by_cases c : m.f1 < x.f1
    · rw [if_pos c]
      refine List.pairwise_cons.2 ⟨fun y hy => ?_, hs⟩
      rcases List.mem_cons.1 hy with e | e
      · rw [e]; exact c
      · exact Int.lt_trans c (h.1 y e)
    · rw [if_neg c]
      refine List.pairwise_cons.2 ⟨fun y hy => ?_, insL_srt m r h.2 fun y hy => hn y (List.mem_cons_of_mem _ hy)⟩
      rcases (insL_mem m r y).1 hy with e | e
      · rw [e]
        have := hn x List.mem_cons_self
        omega
      · exact h.1 y e
theorem index_f (x : Int) (n : Nat) (h : 0 < n) (h2 : n ≤ 100000) : ∃ j : Nat, j < n ∧ codesearchlaw49_index.f x (n : Int) = some (j : Int) := by
  have h3 := Int.tmod_lt_of_pos x (show (0 : Int) < n by omega)
  have h4 := Int.lt_tmod_of_pos x (show (0 : Int) < n by omega)
  unfold codesearchlaw49_index.f
  rw [if_neg (by omega)]
  generalize Int.tmod x n = t at h3 h4
  by_cases c : t < 0
  · rw [if_pos c]
    refine ⟨(t + n).toNat, by omega, ?_⟩
    congr 1
    unfold wrap64; omega
  · rw [if_neg c]
    exact ⟨t.toNat, by omega, by congr 1; omega⟩
end Go.Proofs.Ytcoidmhdkhpalaa.Pure
