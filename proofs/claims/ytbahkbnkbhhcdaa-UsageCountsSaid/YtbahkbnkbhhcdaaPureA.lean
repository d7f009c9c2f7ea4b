/-
  Plain facts on the printed functions of package usage: Right, few, uses, Same, in plain words. No program in sight.
-/
import Derived.Test.YtbahkbnkbhhcdaaPureList
import Derived.Test.YtbahkbnkbhhcdaaPAllx2
import Derived.Test.YtbahkbnkbhhcdaaPAllx7
namespace Go.Proofs.Ytbahkbnkbhhcdaa.Pure
open Go.RowKit Go.Proofs.Ytbahkbnkbhhcdaa.PAll Go.Proofs.YtbahkbnkbhhcdaaW.PrintWords Go.Proofs.YtbahkbnkbhhcdaaW.PrintLast

theorem up (i : Nat) (h : i < 4611686018427387904) : wrap64 ((i : Int) + 1) = ((i + 1 : Nat) : Int) := by unfold wrap64; omega
theorem dn (i : Nat) (h : i < 4611686018427387904) : wrap64 (((i + 1 : Nat) : Int) - 1) = (i : Int) := by unfold wrap64; omega
theorem ba_tl {a : ByteArray} : a.toList = a.data.toList := ByteArray.toList_eq _
theorem ba_list {a b : ByteArray} : a.toList = b.toList ↔ a = b := by
  rw [ba_tl, ba_tl]
  exact ⟨ba_dataC, fun h => by rw [h]⟩
theorem bl_lt (a b : ByteArray) : Op.bytesLess a.toList b.toList = decide (a.data.toList < b.data.toList) := by rw [bless_eqC, ba_tl, ba_tl]
theorem rd34 (l : List S34) (i : Nat) (h : i < l.length) : rd_T34 l (i : Int) = l[i] := rdC l i h
theorem rd47 (l : List S47) (i : Nat) (h : i < l.length) : rd_T47 l (i : Int) = l[i] := by
  unfold rd_T47
  rw [Int.toNat_natCast, List.getD_eq_getElem?_getD, List.getElem?_eq_getElem h]
  rfl
theorem named_f (s : ByteArray) : usage_named.f s = some (decide (1 ≤ s.size ∧ s.size ≤ 300)) := by
  unfold usage_named.f
  by_cases h : 1 ≤ s.size
  · rw [if_pos (show (s.size : Int) ≥ 1 by omega)]
    congr 1
    exact decide_eq_decide.2 ⟨fun h' => ⟨h, by omega⟩, fun h' => by omega⟩
  · rw [if_neg (show ¬ (s.size : Int) ≥ 1 by omega), decide_eq_false (fun h' => h h'.1)]
theorem timed_f (t : Int) : usage_timed.f t = some (decide (0 ≤ t ∧ t ≤ 1000000)) := by
  unfold usage_timed.f
  by_cases h : 0 ≤ t
  · rw [if_pos (show t ≥ 0 by omega)]
    congr 1
    exact decide_eq_decide.2 ⟨fun h' => ⟨h, h'⟩, fun h' => h'.2⟩
  · rw [if_neg (show ¬ t ≥ 0 by omega), decide_eq_false (fun h' => h h'.1)]
instance (x : S34) : Decidable (vC x) := by unfold vC; exact inferInstance
def ascO (p : Option S34) (x : S34) : Bool := match p with
  | none => true
  | some y => decide (y.f0.data.toList < x.f0.data.toList)
def rgB : Option S34 → List S34 → Bool
  | _, [] => true
  | p, x :: r => if vC x then (if ascO p x = true then rgB (some x) r else false) else false
def prevS (l : List S34) : Nat → Option S34
  | 0 => none
  | i + 1 => l[i]?
theorem rgB_iff : ∀ {l : List S34} {p : Option S34}, rgB p l = true ↔ RgC l ∧ ∀ y, p = some y → ∀ x ∈ l, ltC y x
  | [], p => ⟨fun _ => ⟨.nil, fun _ _ x h => by cases h⟩, fun _ => rfl⟩
  | x :: r, p => by
    have ih := @rgB_iff r (some x)
    rw [rgB]
    by_cases h1 : vC x
    · rw [if_pos h1]
      by_cases h2 : ascO p x = true
      · rw [if_pos h2, ih]
        have h2' : ∀ y, p = some y → ltC y x := fun y hy => by subst hy; show y.f0.data.toList < x.f0.data.toList; exact of_decide_eq_true h2
        constructor
        · rintro ⟨h3, h4⟩
          refine ⟨⟨fun z hz => ?_, List.pairwise_cons.2 ⟨h4 x rfl, h3.asc⟩⟩, fun y hy z hz => ?_⟩
          · rcases List.mem_cons.1 hz with rfl | hz
            · exact h1
            · exact h3.val z hz
          · rcases List.mem_cons.1 hz with rfl | hz
            · exact h2' y hy
            · exact ltC_trans (h2' y hy) (h4 x rfl z hz)
        · rintro ⟨h3, _⟩
          obtain ⟨a, b⟩ := List.pairwise_cons.1 h3.asc
          exact ⟨⟨fun z hz => h3.val z (List.mem_cons_of_mem _ hz), b⟩, fun y hy z hz => by injection hy with hy; subst hy; exact a z hz⟩
      · rw [if_neg h2]
        refine ⟨fun h => (by cases h), fun h => absurd ?_ h2⟩
        cases p with
        | none => rfl
        | some y => exact decide_eq_true (show y.f0.data.toList < x.f0.data.toList from h.2 y rfl x List.mem_cons_self)
    · rw [if_neg h1]
      exact ⟨fun h => (by cases h), fun h => absurd (h.1.val x List.mem_cons_self) h1⟩
theorem right_go (l : List S34) (hl : l.length ≤ 1000000) : ∀ (d i : Nat), i + d = l.length → Ev (fun k => usage_Right.l0 k l (l.length : Int) (i : Int) l) (rgB (prevS l i) (l.drop i))
  | 0, i, h => by
    refine Ev.step (fun k => by rw [usage_Right.l0]) ?_
    have h1 : ¬ ((i : Int) < (l.length : Int)) := by omega
    rw [List.drop_of_length_le (by omega)]
    simp only [if_neg h1, rgB]
    exact Ev.now _
  | d + 1, i, h => by
    refine Ev.step (fun k => by rw [usage_Right.l0]) ?_
    have hi : i < l.length := by omega
    have h1 : (i : Int) < (l.length : Int) := by omega
    have h2 : (0 : Int) ≤ (i : Int) := by omega
    have ih := right_go l hl d (i + 1) (by omega)
    rw [List.drop_eq_getElem_cons hi, rgB]
    have hp : prevS l (i + 1) = some l[i] := List.getElem?_eq_getElem hi
    rw [hp] at ih
    simp only [if_pos h1, if_pos h2, rd34 l i hi, named_f, timed_f]
    have bad : Ev (fun k => usage_Right.j1 k (i : Int) l (l.length : Int) (i : Int) true l l[i].f0 l[i].f1 l[i].f2) false := by
      refine Ev.step (fun k => by rw [usage_Right.j1]) ?_
      simp only [if_true]
      exact Ev.now _
    refine Ev.bind (Ev.now _) ?_
    by_cases c0 : 1 ≤ l[i].f0.size ∧ l[i].f0.size ≤ 300
    case neg =>
      rw [if_neg (fun h : vC l[i] => c0 ⟨h.1, h.2.1⟩)]
      simp only [decide_eq_false c0, Bool.false_eq_true, if_false]; exact bad
    simp only [decide_eq_true c0, if_true]
    by_cases c1 : l[i].f1 < 1
    · rw [if_neg (fun h : vC l[i] => by have := h.2.2.1; omega)]
      simp only [if_pos c1]; exact bad
    by_cases c2 : l[i].f1 > 1000000
    · rw [if_neg (fun h : vC l[i] => by have := h.2.2.2.1; omega)]
      simp only [if_neg c1, if_pos c2]; exact bad
    simp only [if_neg c1, if_neg c2]
    refine Ev.bind (Ev.now _) ?_
    by_cases c3 : 0 ≤ l[i].f2 ∧ l[i].f2 ≤ 1000000
    case neg =>
      rw [if_neg (fun h : vC l[i] => c3 ⟨h.2.2.2.2.1, h.2.2.2.2.2⟩)]
      simp only [decide_eq_false c3, Bool.not_false]; exact bad
    rw [if_pos (show vC l[i] from ⟨c0.1, c0.2, by omega, by omega, c3.1, c3.2⟩)]
    simp only [decide_eq_true c3, Bool.not_true]
    refine Ev.step (fun k => by rw [usage_Right.j1]) ?_
    simp only [Bool.false_eq_true, if_false]
    cases i with
    | zero =>
      have z : ¬ (((0 : Nat) : Int) > 0) := by omega
      have u := up 0 (by omega)
      simp only [if_neg z, u, prevS, ascO, if_true]
      exact ih
    | succ j =>
      have z : (((j + 1 : Nat) : Int) > 0) := by omega
      have z1 : (0 : Int) ≤ (j : Int) := by omega
      have z2 : (j : Int) < (l.length : Int) := by omega
      have hp2 : prevS l (j + 1) = some l[j] := List.getElem?_eq_getElem (by omega)
      simp only [if_pos z, dn j (by omega), if_pos z1, if_pos z2, rd34 l j (by omega), hp2, ascO, up (j + 1) (by omega), bl_lt]
      by_cases d1 : l[j].f0.data.toList < l[j + 1].f0.data.toList
      · simp only [decide_eq_true d1, if_true]
        exact ih
      · simp only [decide_eq_false d1, Bool.false_eq_true, if_false]
        exact Ev.now _
theorem right_ev (l : List S34) (hl : l.length ≤ 1000000) : Ev (fun k => usage_Right.f k l) (rgB none l) := by
  have := right_go l hl l.length 0 (by omega)
  rw [List.drop_zero] at this
  exact this
/-! ### few, uses -/
def fewB (l : List S34) : Bool := decide (l.length ≤ 60) && l.all fun x => decide (x.f0.size ≤ 400)
def usesB (l : List S47) : Bool := decide (l.length ≤ 60) && l.all fun x => decide (x.f0.size ≤ 400)
theorem few_go (l : List S34) (hl : l.length ≤ 60) : ∀ (d i : Nat), i + d = l.length → Ev (fun k => codesearchlaw50_few.l0 k (i : Int) l) ((l.drop i).all fun x => decide (x.f0.size ≤ 400))
  | 0, i, h => by
    refine Ev.step (fun k => by rw [codesearchlaw50_few.l0]) ?_
    have h1 : ¬ ((i : Int) < (l.length : Int)) := by omega
    rw [List.drop_of_length_le (by omega)]
    simp only [if_neg h1, List.all_nil]
    exact Ev.now _
  | d + 1, i, h => by
    refine Ev.step (fun k => by rw [codesearchlaw50_few.l0]) ?_
    have hi : i < l.length := by omega
    have h1 : (i : Int) < (l.length : Int) := by omega
    have h2 : (0 : Int) ≤ (i : Int) := by omega
    have ih := few_go l hl d (i + 1) (by omega)
    rw [List.drop_eq_getElem_cons hi, List.all_cons]
    simp only [if_pos h1, if_pos h2, rd34 l i hi, up i (by omega)]
    by_cases c : (l[i].f0.size : Int) > 400
    · have c' : ¬ l[i].f0.size ≤ 400 := by omega
      simp only [if_pos c, decide_eq_false c', Bool.false_and]
      exact Ev.now _
    · have c' : l[i].f0.size ≤ 400 := by omega
      simp only [if_neg c, decide_eq_true c', Bool.true_and]
      exact ih
theorem few_ev (l : List S34) : Ev (fun k => codesearchlaw50_few.f k l) (fewB l) := by
  unfold codesearchlaw50_few.f fewB
  by_cases c : l.length ≤ 60
  · simp only [if_neg (show ¬ (l.length : Int) > 60 by omega), decide_eq_true c, Bool.true_and]
    have := few_go l c l.length 0 (by omega)
    rw [List.drop_zero] at this
    exact this
  · simp only [if_pos (show (l.length : Int) > 60 by omega), decide_eq_false c, Bool.false_and]
    exact Ev.now _
theorem uses_go (l : List S47) (hl : l.length ≤ 60) : ∀ (d i : Nat), i + d = l.length → Ev (fun k => codesearchlaw50_uses.l0 k l (i : Int)) ((l.drop i).all fun x => decide (x.f0.size ≤ 400))
  | 0, i, h => by
    refine Ev.step (fun k => by rw [codesearchlaw50_uses.l0]) ?_
    have h1 : ¬ ((i : Int) < (l.length : Int)) := by omega
    rw [List.drop_of_length_le (by omega)]
    simp only [if_neg h1, List.all_nil]
    exact Ev.now _
  | d + 1, i, h => by
    refine Ev.step (fun k => by rw [codesearchlaw50_uses.l0]) ?_
    have hi : i < l.length := by omega
    have h1 : (i : Int) < (l.length : Int) := by omega
    have h2 : (0 : Int) ≤ (i : Int) := by omega
    have ih := uses_go l hl d (i + 1) (by omega)
    rw [List.drop_eq_getElem_cons hi, List.all_cons]
    simp only [if_pos h1, if_pos h2, rd47 l i hi, up i (by omega)]
    by_cases c : (l[i].f0.size : Int) > 400
    · have c' : ¬ l[i].f0.size ≤ 400 := by omega
      simp only [if_pos c, decide_eq_false c', Bool.false_and]
      exact Ev.now _
    · have c' : l[i].f0.size ≤ 400 := by omega
      simp only [if_neg c, decide_eq_true c', Bool.true_and]
      exact ih
theorem uses_ev (l : List S47) : Ev (fun k => codesearchlaw50_uses.f k l) (usesB l) := by
  unfold codesearchlaw50_uses.f usesB
  by_cases c : l.length ≤ 60
  · simp only [if_neg (show ¬ (l.length : Int) > 60 by omega), decide_eq_true c, Bool.true_and]
    have := uses_go l c l.length 0 (by omega)
    rw [List.drop_zero] at this
    exact this
  · simp only [if_pos (show (l.length : Int) > 60 by omega), decide_eq_false c, Bool.false_and]
    exact Ev.now _
/-! ### Same, at two that are one -/
theorem same_go (l : List S34) (hl : l.length ≤ 1000000) : ∀ (d i : Nat), i + d = l.length → Ev (fun k => codesearchref50_SameCounts.l0 k l l (i : Int)) true
  | 0, i, h => by
    refine Ev.step (fun k => by rw [codesearchref50_SameCounts.l0]) ?_
    have h1 : ¬ ((i : Int) < (l.length : Int)) := by omega
    simp only [if_neg h1]
    exact Ev.now _
  | d + 1, i, h => by
    refine Ev.step (fun k => by rw [codesearchref50_SameCounts.l0]) ?_
    have hi : i < l.length := by omega
    have h1 : (i : Int) < (l.length : Int) := by omega
    have h2 : (0 : Int) ≤ (i : Int) := by omega
    have ih := same_go l hl d (i + 1) (by omega)
    simp only [if_pos h1, if_pos h2, rd34 l i hi, up i (by omega), beq_self_eq_true, Bool.not_true, Bool.or_self, Bool.false_eq_true, if_false]
    exact ih
theorem sameC_ev (l : List S34) (hl : l.length ≤ 1000000) : Ev (fun k => codesearchref50_SameCounts.f k l l) true := by
  unfold codesearchref50_SameCounts.f
  simp only [if_true]
  exact same_go l hl l.length 0 (by omega)
theorem same_ev (l : List S34) (hl : l.length ≤ 1000000) : Ev (fun k => codesearchref50_Same.f k l l) true := by
  unfold codesearchref50_Same.f
  exact Ev.bind (sameC_ev l hl) (Ev.now _)
end Go.Proofs.Ytbahkbnkbhhcdaa.Pure
