/-
  Join of package edit in plain words: the one strictly sorted list of all the edits.
-/
import Derived.Test.YtkokiggccbkngaaPureLib
import Derived.Test.YtkokiggccbkngaaPAllx7
namespace Go.Proofs.Ytkokiggccbkngaa.Pure
open Go.RowKit Go.Proofs.Ytkokiggccbkngaa.PAll Go.Proofs.YtkokiggccbkngaaW.PrintWords Go.Proofs.YtkokiggccbkngaaW.PrintLast
theorem eqE_iff {x y : S40} : eqE x y = true ↔ x = y := by
  unfold eqE
  simp only [Bool.and_eq_true, beq_iff_eq, ba_list]
  constructor
  · rintro ⟨h0, h1, h2⟩
    cases x; cases y
    simp only at h0 h1 h2
    rw [h0, h1, h2]
  · rintro rfl; exact ⟨rfl, rfl, rfl⟩
def leE (x y : S40) : Prop := ¬ ltE y x
theorem le_lt {x y : S40} (h : leE x y) (hn : x ≠ y) : ltE x y := by
  by_cases c : ltE x y
  · exact c
  · exact absurd (ltE_total c h) hn
theorem lt_of_lt_le {x y z : S40} (h1 : ltE x y) (h2 : leE y z) : ltE x z := by
  by_cases e : y = z
  · rw [← e]; exact h1
  · exact ltE_trans h1 (le_lt h2 e)
theorem sortE_perm (l : List S40) : (sortE l).Perm l := List.mergeSort_perm _ _
theorem sortE_sorted (l : List S40) : (sortE l).Pairwise leE := by
  have h := List.pairwise_mergeSort (le := fun x y : S40 => !decide (ltE y x)) (by
    intro a b c h1 h2
    simp only [Bool.not_eq_true', decide_eq_false_iff_not] at h1 h2 ⊢
    intro h
    by_cases e : a = b
    · exact h2 (e ▸ h)
    · exact h2 (ltE_trans h (le_lt h1 e))) (by
    intro a b
    simp only [Bool.or_eq_true, Bool.not_eq_true', decide_eq_false_iff_not]
    by_cases h : ltE b a
    · exact .inr (fun h2 => ltE_irrefl _ (ltE_trans h h2))
    · exact .inl h) l
  refine h.imp (fun {a b} hab => ?_)
  simpa [leE] using hab
theorem comp_ok : ∀ (r : List S40) (p : S40), (p :: r).Pairwise leE → (p :: compG p r).Pairwise ltE ∧ ∀ y, y ∈ p :: compG p r ↔ y ∈ p :: r
  | [], p, _ => ⟨List.pairwise_singleton _ _, fun _ => Iff.rfl⟩
  | x :: r, p, h => by
    obtain ⟨h1, h2⟩ := List.pairwise_cons.1 h
    obtain ⟨i1, i2⟩ := comp_ok r x h2
    rw [compG]
    by_cases c : eqE x p = true
    · rw [if_pos c]
      obtain rfl := eqE_iff.1 c
      refine ⟨i1, fun y => (i2 y).trans ?_⟩
      simp
    · rw [if_neg c]
      have hn : p ≠ x := fun e => c (eqE_iff.2 e.symm)
      have hpx := le_lt (h1 x List.mem_cons_self) hn
      refine ⟨List.pairwise_cons.2 ⟨fun y hy => ?_, i1⟩, fun y => ?_⟩
      · rcases List.mem_cons.1 ((i2 y).1 hy) with rfl | hy2
        · exact hpx
        · exact lt_of_lt_le hpx ((List.pairwise_cons.1 h2).1 y hy2)
      · rw [List.mem_cons, i2 y]; simp
theorem compE_ok {l : List S40} (h : l.Pairwise leE) : (compE l).Pairwise ltE ∧ ∀ y, y ∈ compE l ↔ y ∈ l := by
  cases l with
  | nil => exact ⟨List.Pairwise.nil, fun _ => Iff.rfl⟩
  | cons x r => exact comp_ok r x h
theorem one_list : ∀ {a b : List S40}, a.Pairwise ltE → b.Pairwise ltE → (∀ y, y ∈ a ↔ y ∈ b) → a = b
  | [], [], _, _, _ => rfl
  | [], y :: r, _, _, h => by have := (h y).2 List.mem_cons_self; cases this
  | x :: r, [], _, _, h => by have := (h x).1 List.mem_cons_self; cases this
  | x :: r, y :: q, ha, hb, h => by
    obtain ⟨a1, a2⟩ := List.pairwise_cons.1 ha
    obtain ⟨b1, b2⟩ := List.pairwise_cons.1 hb
    have e : x = y := by
      rcases List.mem_cons.1 ((h x).1 List.mem_cons_self) with e | hx
      · exact e
      rcases List.mem_cons.1 ((h y).2 List.mem_cons_self) with e | hy
      · exact e.symm
      · exact absurd (ltE_trans (a1 y hy) (b1 x hx)) (ltE_irrefl _)
    subst e
    rw [one_list a2 b2 (fun z => ?_)]
    constructor
    · intro hz
      rcases List.mem_cons.1 ((h z).1 (List.mem_cons_of_mem _ hz)) with rfl | hz2
      · exact absurd (a1 _ hz) (ltE_irrefl _)
      · exact hz2
    · intro hz
      rcases List.mem_cons.1 ((h z).2 (List.mem_cons_of_mem _ hz)) with rfl | hz2
      · exact absurd (b1 _ hz) (ltE_irrefl _)
      · exact hz2
theorem join_ok (a b : List S40) : (joinS a b).Pairwise ltE ∧ ∀ y, y ∈ joinS a b ↔ y ∈ a ∨ y ∈ b := by
  obtain ⟨h1, h2⟩ := compE_ok (sortE_sorted (a ++ b))
  exact ⟨h1, fun y => by rw [show joinS a b = compE (sortE (a ++ b)) from rfl, h2, (sortE_perm (a ++ b)).mem_iff, List.mem_append]⟩
theorem join_is {a b r : List S40} (h1 : r.Pairwise ltE) (h2 : ∀ y, y ∈ r ↔ y ∈ a ∨ y ∈ b) : joinS a b = r :=
  one_list (join_ok a b).1 h1 (fun y => ((join_ok a b).2 y).trans (h2 y).symm)
theorem join_len (a b : List S40) : (joinS a b).length ≤ a.length + b.length := by
  have h1 := compE_len (sortE (a ++ b))
  have h2 : (sortE (a ++ b)).length = (a ++ b).length := List.length_mergeSort _
  rw [List.length_append] at h2
  show (compE (sortE (a ++ b))).length ≤ _
  omega
def joinR (a b : List S40) (n : Int) : List S40 × Int := if rightS n (joinS a b) = 0 then (joinS a b, 0) else ([], rightS n (joinS a b))
theorem join_ev (a b : List S40) (n : Int) (ha : a.length ≤ 549755813888) (hb : b.length ≤ 549755813888) : Ev (fun k => edit_Join.f k a b n) (joinR a b n) := by
  unfold edit_Join.f joinR
  simp only [if_pos (And.intro ha hb)]
  refine Ev.bind (right_ev (joinS a b) n) ?_
  by_cases c : rightS n (joinS a b) = 0
  · simp only [if_pos c]; exact Ev.now _
  · simp only [if_neg c]; exact Ev.now _
end Go.Proofs.Ytkokiggccbkngaa.Pure
