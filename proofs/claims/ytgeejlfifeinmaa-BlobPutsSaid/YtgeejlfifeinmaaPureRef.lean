/-
  Plain facts on the reference of package blob: Right, Find, Put, Same come to the same as the code's.
-/
import Derived.Test.YtgeejlfifeinmaaPureLib
import Derived.Test.YtgeejlfifeinmaaPAllx9
namespace Go.Proofs.Ytgeejlfifeinmaa.Pure
open Go.RowKit Go.Proofs.Ytgeejlfifeinmaa.PAll Go.Proofs.YtgeejlfifeinmaaW.PrintWords Go.Proofs.YtgeejlfifeinmaaW.PrintLast

theorem btCount_le : ∀ l : List S39, btCount l ≤ l.length
  | [] => Nat.le_refl _
  | b :: r => by
    have := btCount_le r
    rw [btCount]
    split <;> simp <;> omega
theorem btCount_eq : ∀ l : List S39, btCount l = l.length ↔ l.Pairwise (fun a b => a.f1 ≠ b.f1)
  | [] => by simp [btCount]
  | b :: r => by
    have hle := btCount_le r
    have ih := btCount_eq r
    rw [btCount, List.pairwise_cons]
    by_cases h : btHas r b.f1 = true
    · rw [if_pos h]
      constructor
      · intro e; simp at e; omega
      · intro e
        unfold btHas at h
        obtain ⟨x, hx, hh⟩ := List.any_eq_true.1 h
        exact absurd (of_decide_eq_true hh).symm (e.1 x hx)
    · rw [if_neg h]
      constructor
      · intro e
        refine ⟨fun x hx hh => h ?_, ih.1 (by simp at e; omega)⟩
        unfold btHas
        exact List.any_eq_true.2 ⟨x, hx, decide_eq_true hh.symm⟩
      · intro e
        have := ih.2 e.2
        simp; omega
/-- the loop over the earlier ones: from k on -/
def earlyFrom (l : List S39) (i : Nat) : Nat → Nat → Bool
  | 0, _ => false
  | d + 1, k => decide ((l.getD i z39).f1 = (l.getD k z39).f1) || earlyFrom l i d (k + 1)
def dupFrom (l : List S39) : Nat → Nat → Bool
  | 0, _ => false
  | d + 1, i => earlyFrom l i i 0 || dupFrom l d (i + 1)
theorem early_false (l : List S39) (i : Nat) : ∀ (d k : Nat), earlyFrom l i d k = false ↔ ∀ j, k ≤ j → j < k + d → (l.getD i z39).f1 ≠ (l.getD j z39).f1
  | 0, k => by simp [earlyFrom]; intro j h1 h2; omega
  | d + 1, k => by
    rw [earlyFrom, Bool.or_eq_false_iff, decide_eq_false_iff_not, early_false l i d (k + 1)]
    constructor
    · intro h j h1 h2
      by_cases e : j = k
      · subst e; exact h.1
      · exact h.2 j (by omega) (by omega)
    · intro h
      exact ⟨h k (Nat.le_refl _) (by omega), fun j h1 h2 => h j (by omega) (by omega)⟩
theorem dup_false (l : List S39) : ∀ (d i : Nat), dupFrom l d i = false ↔ ∀ a, i ≤ a → a < i + d → ∀ j, j < a → (l.getD a z39).f1 ≠ (l.getD j z39).f1
  | 0, i => by simp [dupFrom]; intro a h1 h2; omega
  | d + 1, i => by
    rw [dupFrom, Bool.or_eq_false_iff, early_false, dup_false l d (i + 1)]
    constructor
    · intro h a h1 h2 j hj
      by_cases e : a = i
      · subst e; exact h.1 j (Nat.zero_le _) (by omega)
      · exact h.2 a (by omega) (by omega) j hj
    · intro h
      exact ⟨fun j _ h2 => h i (Nat.le_refl _) (by omega) j (by omega), fun a h1 h2 => h a (by omega) (by omega)⟩
theorem dup_iff (l : List S39) : dupFrom l l.length 0 = decide (btCount l < l.length) := by
  have hle := btCount_le l
  have he := btCount_eq l
  have key : dupFrom l l.length 0 = false ↔ l.Pairwise (fun a b => a.f1 ≠ b.f1) := by
    rw [dup_false, List.pairwise_iff_getElem]
    constructor
    · intro h i j hi hj hij
      have := h j (Nat.zero_le _) (by omega) i hij
      simp only [List.getD_eq_getElem?_getD, List.getElem?_eq_getElem hi, List.getElem?_eq_getElem hj] at this
      exact fun e => this e.symm
    · intro h a _ h2 j hj
      have ha : a < l.length := by omega
      have hj' : j < l.length := by omega
      have := h j a hj' ha hj
      simp only [List.getD_eq_getElem?_getD, List.getElem?_eq_getElem ha, List.getElem?_eq_getElem hj']
      exact fun e => this e.symm
  by_cases hc : btCount l < l.length
  · rw [decide_eq_true hc]
    cases hd : dupFrom l l.length 0
    · have := he.2 (key.1 hd); omega
    · rfl
  · rw [decide_eq_false hc]
    exact key.2 (he.1 (by omega))
theorem rdT (l : List S39) (i : Nat) : rd_T39 l (i : Int) = l.getD i z39 := rfl
/-! ### the loops of Right -/
theorem r3_go (a0 : Int) (l : List S39) (hl : l.length ≤ 1099511627776) (i : Nat) (hi : i < l.length) (R : Int) (H : Ev (fun k => codesearchref24_Right.l2 k ((i + 1 : Nat) : Int) a0 l) R) : ∀ (d j : Nat), j + d = i →
    Ev (fun k => codesearchref24_Right.l3 k (i : Int) (j : Int) a0 l) (if earlyFrom l i d j = true then 7 else R)
  | 0, j, h => by
    refine Ev.step (fun k => by rw [codesearchref24_Right.l3]) ?_
    have h1 : ¬ ((j : Int) < (i : Int)) := by omega
    simp only [if_neg h1, up i (by omega), earlyFrom, Bool.false_eq_true, if_false]
    exact H
  | d + 1, j, h => by
    refine Ev.step (fun k => by rw [codesearchref24_Right.l3]) ?_
    have h1 : (j : Int) < (i : Int) := by omega
    have h2 : (0 : Int) ≤ (i : Int) := by omega
    have h3 : (i : Int) < (l.length : Int) := by omega
    have h4 : (0 : Int) ≤ (j : Int) := by omega
    have h5 : (j : Int) < (l.length : Int) := by omega
    have ih := r3_go a0 l hl i hi R H d (j + 1) (by omega)
    simp only [if_pos h1, if_pos h2, if_pos h3, if_pos h4, if_pos h5, rdT, ba_list, up j (by omega), earlyFrom]
    by_cases c : (l.getD i z39).f1 = (l.getD j z39).f1
    · simp only [c, decide_true, Bool.true_or, if_true]; exact Ev.now _
    · simp only [if_neg c, decide_eq_false c, Bool.false_or]; exact ih
theorem r2_go (a0 : Int) (l : List S39) (hl : l.length ≤ 1099511627776) : ∀ (d i : Nat), i + d = l.length → Ev (fun k => codesearchref24_Right.l2 k (i : Int) a0 l) (if dupFrom l d i = true then 7 else 0)
  | 0, i, h => by
    refine Ev.step (fun k => by rw [codesearchref24_Right.l2]) ?_
    have h1 : ¬ ((i : Int) < (l.length : Int)) := by omega
    simp only [if_neg h1, dupFrom, Bool.false_eq_true, if_false]
    exact Ev.now _
  | d + 1, i, h => by
    refine Ev.step (fun k => by rw [codesearchref24_Right.l2]) ?_
    have h1 : (i : Int) < (l.length : Int) := by omega
    have g := r3_go a0 l hl i (by omega) _ (r2_go a0 l hl d (i + 1) (by omega)) i 0 (by omega)
    simp only [if_pos h1]
    by_cases he : earlyFrom l i i 0 = true
    · rw [if_pos he] at g
      rw [if_pos (show dupFrom l (d + 1) i = true by simp [dupFrom, he])]
      exact g
    · rw [if_neg he] at g
      have hD : dupFrom l (d + 1) i = dupFrom l d (i + 1) := by simp [dupFrom, he]
      simp only [hD]
      exact g
theorem r1_go (a0 : Int) (l : List S39) (hl : l.length ≤ 1099511627776) : ∀ (d i : Nat), i + d = l.length → Ev (fun k => codesearchref24_Right.l1 k (i : Int) a0 l) (if ((l.drop i).all fun b => validS b.f1) = true then (if btCount l < l.length then 7 else 0) else 3)
  | 0, i, h => by
    refine Ev.step (fun k => by rw [codesearchref24_Right.l1]) ?_
    have h1 : ¬ ((i : Int) < (l.length : Int)) := by omega
    have g := r2_go a0 l hl l.length 0 (by omega)
    simp only [dup_iff, decide_eq_true_eq] at g
    simp only [if_neg h1, List.drop_of_length_le (show l.length ≤ i by omega), List.all_nil, if_true]
    exact g
  | d + 1, i, h => by
    refine Ev.step (fun k => by rw [codesearchref24_Right.l1]) ?_
    have hi : i < l.length := by omega
    have h1 : (i : Int) < (l.length : Int) := by omega
    have h2 : (0 : Int) ≤ (i : Int) := by omega
    have ih := r1_go a0 l hl d (i + 1) (by omega)
    rw [List.drop_eq_getElem_cons hi, List.all_cons]
    simp only [if_pos h1, if_pos h2, rd_at l i hi, up i (by omega)]
    refine Ev.bind (validR_ev _) ?_
    cases hv : validS l[i].f1
    · simp only [Bool.false_eq_true, if_false, Bool.false_and]; exact Ev.now _
    · simp only [if_true, Bool.true_and]; exact ih
theorem r0_go (a0 : Int) (l : List S39) (hl : l.length ≤ 1099511627776) : ∀ (d i : Nat) (last : Int), i + d = l.length → (i = 0 → last = 0) → (0 < i → 1 ≤ last ∧ last = (l.getD (i - 1) z39).f0) →
    Ev (fun k => codesearchref24_Right.l0 k (i : Int) a0 l) (if rtIds a0 last (l.drop i) = true then (if l.length > 128 then 4 else if (l.all fun b => validS b.f1) = true then (if btCount l < l.length then 7 else 0) else 3) else 2)
  | 0, i, last, h, _, _ => by
    refine Ev.step (fun k => by rw [codesearchref24_Right.l0]) ?_
    have h1 : ¬ ((i : Int) < (l.length : Int)) := by omega
    have g := r1_go a0 l hl l.length 0 (by omega)
    rw [List.drop_zero] at g
    simp only [if_neg h1, List.drop_of_length_le (show l.length ≤ i by omega), rtIds, if_true]
    by_cases c : l.length > 128
    · have c' : (l.length : Int) > 128 := by omega
      simp only [if_pos c, if_pos c']; exact Ev.now _
    · have c' : ¬ ((l.length : Int) > 128) := by omega
      simp only [if_neg c, if_neg c']; exact g
  | d + 1, i, last, h, hz, hp => by
    refine Ev.step (fun k => by rw [codesearchref24_Right.l0]) ?_
    have hi : i < l.length := by omega
    have h1 : (i : Int) < (l.length : Int) := by omega
    have h2 : (0 : Int) ≤ (i : Int) := by omega
    rw [List.drop_eq_getElem_cons hi, rtIds]
    simp only [if_pos h1, if_pos h2, rd_at l i hi, up i (by omega)]
    have ih : 1 ≤ l[i].f0 → Ev (fun k => codesearchref24_Right.l0 k ((i + 1 : Nat) : Int) a0 l) _ := fun h1 => r0_go a0 l hl d (i + 1) l[i].f0 (by omega) (fun e => by omega) (fun _ => ⟨h1, by simp [List.getD_eq_getElem?_getD, hi]⟩)
    by_cases c1 : l[i].f0 < 1
    · have c2 : l[i].f0 ≤ last := by
        by_cases e : i = 0
        · have := hz e; omega
        · have := hp (by omega); omega
      simp only [if_pos c1, if_pos c2, Bool.false_eq_true, if_false]; exact Ev.now _
    by_cases c3 : l[i].f0 ≥ a0
    · have c3' : a0 ≤ l[i].f0 := c3
      simp only [if_neg c1, if_pos c3]
      by_cases c2 : l[i].f0 ≤ last
      · simp only [if_pos c2, Bool.false_eq_true, if_false]; exact Ev.now _
      · simp only [if_neg c2, Bool.false_eq_true, if_false]; exact Ev.now _
    have c3' : ¬ (a0 ≤ l[i].f0) := c3
    by_cases e : i = 0
    · have e1 : ¬ ((i : Int) > 0) := by omega
      have c2 : ¬ (l[i].f0 ≤ last) := by have := hz e; omega
      simp only [if_neg c1, if_neg c3, if_neg e1, if_neg c2]
      exact ih (by omega)
    · obtain ⟨p1, p2⟩ := hp (by omega)
      have e1 : (i : Int) > 0 := by omega
      have w : wrap64 ((i : Int) - 1) = ((i - 1 : Nat) : Int) := by rw [wr _ (by omega) (by omega)]; omega
      have e2 : (0 : Int) ≤ ((i - 1 : Nat) : Int) := by omega
      have e3 : ((i - 1 : Nat) : Int) < (l.length : Int) := by omega
      simp only [if_neg c1, if_neg c3, if_pos e1, w, if_pos e2, if_pos e3, rdT, ← p2]
      by_cases c2 : l[i].f0 ≤ last
      · simp only [if_pos c2, Bool.false_eq_true, if_false]; exact Ev.now _
      · simp only [if_neg c2]
        exact ih (by omega)
theorem rightR_ev (a0 : Int) (l : List S39) (hl : l.length ≤ 1099511627776) : Ev (fun k => codesearchref24_Right.f k a0 l) (rightS a0 l) := by
  unfold codesearchref24_Right.f rightS
  by_cases c1 : a0 < 1
  · simp only [if_pos c1]
    refine Ev.step (fun k => by rw [codesearchref24_Right.j0]) ?_
    simp only [if_true]; exact Ev.now _
  by_cases c2 : a0 > 10000
  · simp only [if_neg c1, if_pos c2, decide_eq_true c2]
    refine Ev.step (fun k => by rw [codesearchref24_Right.j0]) ?_
    simp only [if_true]; exact Ev.now _
  simp only [if_neg c1, if_neg c2, decide_eq_false c2]
  refine Ev.step (fun k => by rw [codesearchref24_Right.j0]) ?_
  simp only [Bool.false_eq_true, if_false]
  exact r0_go a0 l hl l.length 0 0 (by omega) (fun _ => rfl) (fun h => by omega)
end Go.Proofs.Ytgeejlfifeinmaa.Pure
