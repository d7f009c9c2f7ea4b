/-
  UsageCounts: after some uses, from nothing on, the count of a name is the number of its uses, its Last their greatest time, and Total the number of all uses (at most 60 uses). No condition beside the given statement's own.
-/
import Derived.Test.YtbahkbnkbhhcdaaPureB
import Derived.Test.YtbahkbnkbhhcdaaPureAlive
import Derived.Test.YtbahkbnkbhhcdaaPAllx15
namespace Go.Proofs.Ytbahkbnkbhhcdaa.Pure
open Go.RowKit Go.Proofs.Ytbahkbnkbhhcdaa.PAll Go.Proofs.YtbahkbnkbhhcdaaW.PrintWords Go.Proofs.YtbahkbnkbhhcdaaW.PrintLast
def getU (s : ByteArray) : List S34 → Int × Int
  | [] => (0, 0)
  | x :: r => if x.f0 = s then (x.f1, x.f2) else getU s r
def sumU : List S34 → Int
  | [] => 0
  | x :: r => x.f1 + sumU r
def stepU (s : ByteArray) (a : Int × Int × Int) (x : S47) : Int × Int × Int :=
  if okU x then (if x.f0 = s then (a.1 + 1, a.2.1 + 1, max a.2.2 x.f1) else (a.1 + 1, a.2.1, a.2.2)) else a
theorem getU_none {s : ByteArray} : ∀ {l : List S34}, (∀ x ∈ l, x.f0 ≠ s) → getU s l = (0, 0)
  | [], _ => rfl
  | x :: r, h => by
    rw [getU, if_neg (h x List.mem_cons_self)]
    exact getU_none fun y hy => h y (List.mem_cons_of_mem _ hy)
theorem sumU_nonneg : ∀ {l : List S34}, (∀ x ∈ l, vC x) → 0 ≤ sumU l
  | [], _ => Int.le_refl _
  | x :: r, h => by
    have h1 := (h x List.mem_cons_self).2.2.1
    have h2 := sumU_nonneg (l := r) fun y hy => h y (List.mem_cons_of_mem _ hy)
    rw [sumU]; omega
theorem mem_le : ∀ {l : List S34}, (∀ x ∈ l, vC x) → ∀ x ∈ l, x.f1 ≤ sumU l
  | y :: r, h, x, hx => by
    have h1 := (h y List.mem_cons_self).2.2.1
    have h2 := sumU_nonneg (l := r) fun z hz => h z (List.mem_cons_of_mem _ hz)
    rw [sumU]
    rcases List.mem_cons.1 hx with rfl | hx
    · omega
    · have := mem_le (l := r) (fun z hz => h z (List.mem_cons_of_mem _ hz)) x hx
      omega
theorem put_facts {s : ByteArray} {c : S34} (hc1 : c.f1 = 1) (hc2 : 0 ≤ c.f2) : ∀ {l : List S34}, (∀ x ∈ l, vC x) → (∀ x ∈ l, x.f1 < 1000000) → l.Pairwise ltC →
    sumU (putR l c) = sumU l + 1 ∧ getU s (putR l c) = if s = c.f0 then ((getU s l).1 + 1, max (getU s l).2 c.f2) else getU s l
  | [], _, _, _ => by
    refine ⟨by simp [putR, sumU, hc1], ?_⟩
    rw [putR, getU, getU]
    by_cases h : s = c.f0
    · rw [if_pos h.symm, if_pos h, hc1, Int.max_eq_right hc2]; rfl
    · rw [if_neg (fun e => h e.symm), if_neg h]; rfl
  | x :: r, hv, hb, ha => by
    obtain ⟨a1, a2⟩ := List.pairwise_cons.1 ha
    obtain ⟨i1, i2⟩ := put_facts (s := s) hc1 hc2 (l := r) (fun y hy => hv y (List.mem_cons_of_mem _ hy)) (fun y hy => hb y (List.mem_cons_of_mem _ hy)) a2
    rw [putR]
    by_cases h1 : x.f0.data.toList < c.f0.data.toList
    · rw [if_pos h1]
      have hne : x.f0 ≠ c.f0 := ltC_ne (x := x) (y := c) h1
      refine ⟨by rw [sumU, sumU, i1]; omega, ?_⟩
      rw [getU, getU, i2]
      by_cases h : x.f0 = s
      · rw [if_pos h, if_pos h, if_neg (fun e => hne (h.trans e))]
      · rw [if_neg h, if_neg h]
    · rw [if_neg h1]
      by_cases h2 : x.f0 = c.f0
      · rw [if_pos h2]
        have hx := hb x List.mem_cons_self
        have hm : min (x.f1 + c.f1) 1000000 = x.f1 + 1 := by rw [hc1]; omega
        refine ⟨by rw [sumU, sumU, show (bothC x c).f1 = x.f1 + 1 from hm]; omega, ?_⟩
        rw [getU, getU]
        show (if x.f0 = s then ((bothC x c).f1, (bothC x c).f2) else getU s r) = _
        by_cases h : x.f0 = s
        · rw [if_pos h, if_pos h, if_pos (h.symm.trans h2), bothC, hm]
        · rw [if_neg h, if_neg h, if_neg (fun e => h (h2.trans e.symm))]
      · rw [if_neg h2]
        have hlt := ltC_tri h1 h2
        refine ⟨by rw [sumU, sumU, hc1]; omega, ?_⟩
        rw [getU]
        by_cases h : s = c.f0
        · rw [if_pos h.symm, if_pos h, getU_none (s := s) (l := x :: r) (fun y hy => ?_), hc1, Int.max_eq_right hc2]
          · rfl
          · rw [h]
            rcases List.mem_cons.1 hy with rfl | hy
            · exact h2
            · exact (ltC_ne (ltC_trans hlt (a1 y hy))).symm
        · rw [if_neg (fun e => h e.symm), if_neg h]
structure InvU (s : ByteArray) (u : List S34) (a : Int × Int × Int) : Prop where
  rg : RgC u
  sum : sumU u = a.1
  get : getU s u = a.2
theorem step_inv {s : ByteArray} {u : List S34} {a : Int × Int × Int} (h : InvU s u a) (hn : a.1 < 1000000) (x : S47) : InvU s (addU u x) (stepU s a x) := by
  obtain ⟨hr, hs, hg⟩ := h
  unfold addU stepU
  by_cases c : okU x
  · rw [if_pos c, if_pos c]
    obtain ⟨p1, p2⟩ := put_facts (s := s) (c := cnt x) rfl (show 0 ≤ (cnt x).f2 from c.2.1) hr.val (fun y hy => by have := mem_le hr.val y hy; omega) hr.asc
    by_cases e : x.f0 = s
    · rw [if_pos e]
      refine ⟨putR_rg hr (cnt_val c), by rw [p1, hs], ?_⟩
      rw [p2, if_pos (show s = (cnt x).f0 from e.symm), hg]
      rfl
    · rw [if_neg e]
      refine ⟨putR_rg hr (cnt_val c), by rw [p1, hs], ?_⟩
      rw [p2, if_neg (fun e' : s = (cnt x).f0 => e e'.symm), hg]
  · rw [if_neg c, if_neg c]
    exact ⟨hr, hs, hg⟩
theorem step_le (s : ByteArray) (a : Int × Int × Int) (x : S47) : (stepU s a x).1 ≤ a.1 + 1 := by
  unfold stepU
  split
  · split
    · exact Int.le_refl _
    · exact Int.le_refl _
  · omega
theorem fold_inv (s : ByteArray) : ∀ (l : List S47) {u : List S34} {a : Int × Int × Int}, InvU s u a → a.1 + l.length < 1000000 → InvU s (l.foldl addU u) (l.foldl (stepU s) a)
  | [], _, _, h, _ => h
  | x :: l, u, a, h, hn => by
    have h1 := step_le s a x
    simp only [List.length_cons] at hn
    exact fold_inv s l (step_inv h (by omega) x) (by omega)
theorem fold_le (s : ByteArray) : ∀ (l : List S47) (a : Int × Int × Int), 0 ≤ a.1 → 0 ≤ a.2.1 → a.2.1 ≤ a.1 → (l.foldl (stepU s) a).1 ≤ a.1 + l.length
  | [], a, _, _, _ => by simp
  | x :: l, a, h0, h1, h2 => by
    have e := step_le s a x
    have h3 : 0 ≤ (stepU s a x).1 ∧ 0 ≤ (stepU s a x).2.1 ∧ (stepU s a x).2.1 ≤ (stepU s a x).1 := by
      unfold stepU
      split
      · split
        · exact ⟨show 0 ≤ a.1 + 1 by omega, show 0 ≤ a.2.1 + 1 by omega, show a.2.1 + 1 ≤ a.1 + 1 by omega⟩
        · exact ⟨show 0 ≤ a.1 + 1 by omega, show 0 ≤ a.2.1 by omega, show a.2.1 ≤ a.1 + 1 by omega⟩
      · exact ⟨h0, h1, h2⟩
    have := fold_le s l (stepU s a x) h3.1 h3.2.1 h3.2.2
    simp only [List.foldl_cons, List.length_cons]; omega
theorem get_go (s : ByteArray) (l : List S34) (hl : l.length ≤ 1000000) : ∀ (d i : Nat), i + d = l.length → Ev (fun k => usage_Get.l0 k s l (l.length : Int) (i : Int)) (s, (getU s (l.drop i)).1, (getU s (l.drop i)).2)
  | 0, i, h => by
    refine Ev.step (fun k => by rw [usage_Get.l0]) ?_
    have h1 : ¬ ((i : Int) < (l.length : Int)) := by omega
    rw [List.drop_of_length_le (by omega)]
    simp only [if_neg h1, getU]
    exact Ev.now _
  | d + 1, i, h => by
    refine Ev.step (fun k => by rw [usage_Get.l0]) ?_
    have hi : i < l.length := by omega
    have h1 : (i : Int) < (l.length : Int) := by omega
    have h2 : (0 : Int) ≤ (i : Int) := by omega
    have ih := get_go s l hl d (i + 1) (by omega)
    rw [List.drop_eq_getElem_cons hi, getU]
    simp only [if_pos h1, if_pos h2, rd34 l i hi, up i (by omega), ba_list]
    by_cases c : l[i].f0 = s
    · simp only [if_pos c]
      rw [c]
      exact Ev.now _
    · simp only [if_neg c]
      exact ih
theorem total_go (l : List S34) (hl : l.length ≤ 1000000) (hv : ∀ x ∈ l, vC x) : ∀ (d i : Nat) (n : Int), i + d = l.length → 0 ≤ n → n ≤ 1000000 * i → Ev (fun k => usage_Total.l0 k n l (l.length : Int) (i : Int)) (n + sumU (l.drop i))
  | 0, i, n, h, _, _ => by
    refine Ev.step (fun k => by rw [usage_Total.l0]) ?_
    have h1 : ¬ ((i : Int) < (l.length : Int)) := by omega
    rw [List.drop_of_length_le (by omega)]
    simp only [if_neg h1, sumU, Int.add_zero]
    exact Ev.now _
  | d + 1, i, n, h, h0, hb => by
    refine Ev.step (fun k => by rw [usage_Total.l0]) ?_
    have hi : i < l.length := by omega
    have h1 : (i : Int) < (l.length : Int) := by omega
    have h2 : (0 : Int) ≤ (i : Int) := by omega
    have hx := hv _ (List.getElem_mem hi)
    have hx1 := hx.2.2.1
    have hx2 := hx.2.2.2.1
    have ih := total_go l hl hv d (i + 1) (n + l[i].f1) (by omega) (by omega) (by omega)
    have hw : wrap64 (n + l[i].f1) = n + l[i].f1 := by unfold wrap64; omega
    rw [List.drop_eq_getElem_cons hi, sumU]
    simp only [if_pos h1, if_pos h2, rd34 l i hi, up i (by omega), hw]
    rw [← Int.add_assoc]
    exact ih
theorem loop_go (s : ByteArray) (l : List S47) (hl : l.length ≤ 60) (u : List S34) (hu : RgC u) (hul : u.length ≤ 60) : ∀ (d i : Nat) (a : Int × Int × Int), i + d = l.length → 0 ≤ a.1 → a.1 ≤ i → 0 ≤ a.2.1 → a.2.1 ≤ i →
    InvU s u ((l.drop i).foldl (stepU s) a) → Ev (fun k => codesearchlaw50_UsageCounts.l0 k l s a.1 (i : Int) u s a.2.1 a.2.2) true
  | 0, i, a, h, _, _, _, _, hI => by
    refine Ev.step (fun k => by rw [codesearchlaw50_UsageCounts.l0]) ?_
    have h1 : ¬ ((i : Int) < (l.length : Int)) := by omega
    rw [List.drop_of_length_le (by omega)] at hI
    obtain ⟨_, hs, hg⟩ := hI
    rw [List.foldl_nil] at hs hg
    simp only [if_neg h1]
    refine Ev.bind (right_ev u (by omega)) ?_
    rw [rgB_iff.2 ⟨hu, fun y hy => by cases hy⟩]
    simp only [if_true]
    have hget := get_go s u (by omega) u.length 0 (by omega)
    rw [List.drop_zero, hg] at hget
    refine Ev.bind hget ?_
    simp only [beq_self_eq_true, Bool.and_self, if_true]
    have htot := total_go u (by omega) hu.val u.length 0 0 (by omega) (Int.le_refl _) (by omega)
    rw [List.drop_zero, Int.zero_add, hs] at htot
    refine Ev.bind htot ?_
    simp only [beq_self_eq_true]
    exact Ev.now _
  | d + 1, i, a, h, h0, hb, h3, h4, hI => by
    refine Ev.step (fun k => by rw [codesearchlaw50_UsageCounts.l0]) ?_
    have hi : i < l.length := by omega
    have h1 : (i : Int) < (l.length : Int) := by omega
    have h2 : (0 : Int) ≤ (i : Int) := by omega
    rw [List.drop_eq_getElem_cons hi, List.foldl_cons] at hI
    simp only [if_pos h1, if_pos h2, rd47 l i hi]
    have hskip : ¬ okU l[i] → Ev (fun k => codesearchlaw50_UsageCounts.j2 k l s a.1 (i : Int) true u s a.2.1 a.2.2 l[i].f0 l[i].f1) true := fun hno => by
      refine Ev.step (fun k => by rw [codesearchlaw50_UsageCounts.j2]) ?_
      simp only [if_true, up i (by omega)]
      have e : stepU s a l[i] = a := by unfold stepU; rw [if_neg hno]
      rw [e] at hI
      exact loop_go s l hl u hu hul d (i + 1) a (by omega) h0 (by omega) h3 (by omega) hI
    by_cases c1 : (l[i].f0.size : Int) < 1
    · simp only [if_pos c1]; exact hskip fun h => by have := h.1.1; omega
    by_cases c2 : (l[i].f0.size : Int) > 300
    · simp only [if_neg c1, if_pos c2]; exact hskip fun h => by have := h.1.2; omega
    by_cases c3 : l[i].f1 < 0
    · simp only [if_neg c1, if_neg c2, if_pos c3]; exact hskip fun h => by have := h.2.1; omega
    simp only [if_neg c1, if_neg c2, if_neg c3]
    by_cases c4 : l[i].f1 > 1000000
    · simp only [decide_eq_true c4]; exact hskip fun h => by have := h.2.2; omega
    simp only [decide_eq_false c4]
    have hok : okU l[i] := ⟨⟨by omega, by omega⟩, by omega, by omega⟩
    refine Ev.step (fun k => by rw [codesearchlaw50_UsageCounts.j2]) ?_
    have w1 : wrap64 (a.1 + 1) = a.1 + 1 := by unfold wrap64; omega
    have w2 : wrap64 (a.2.1 + 1) = a.2.1 + 1 := by unfold wrap64; omega
    simp only [Bool.false_eq_true, if_false, up i (by omega), w1, w2, ba_list]
    by_cases c5 : l[i].f0 = s
    · simp only [if_pos c5]
      have e : stepU s a l[i] = (a.1 + 1, a.2.1 + 1, max a.2.2 l[i].f1) := by unfold stepU; rw [if_pos hok, if_pos c5]
      rw [e] at hI
      have ih := loop_go s l hl u hu hul d (i + 1) (a.1 + 1, a.2.1 + 1, max a.2.2 l[i].f1) (by omega) (show 0 ≤ a.1 + 1 by omega) (show a.1 + 1 ≤ ((i + 1 : Nat) : Int) by omega) (show 0 ≤ a.2.1 + 1 by omega) (show a.2.1 + 1 ≤ ((i + 1 : Nat) : Int) by omega) hI
      by_cases c6 : l[i].f1 > a.2.2
      · simp only [if_pos c6]
        have : max a.2.2 l[i].f1 = l[i].f1 := by omega
        rw [this] at ih
        exact ih
      · simp only [if_neg c6]
        have : max a.2.2 l[i].f1 = a.2.2 := by omega
        rw [this] at ih
        exact ih
    · simp only [if_neg c5]
      have e : stepU s a l[i] = (a.1 + 1, a.2.1, a.2.2) := by unfold stepU; rw [if_pos hok, if_neg c5]
      rw [e] at hI
      exact loop_go s l hl u hu hul d (i + 1) (a.1 + 1, a.2.1, a.2.2) (by omega) (show 0 ≤ a.1 + 1 by omega) (show a.1 + 1 ≤ ((i + 1 : Nat) : Int) by omega) h3 (show a.2.1 ≤ ((i + 1 : Nat) : Int) by omega) hI
theorem UsageCounts : ∀ (a0 : (List S47)) (a1 : ByteArray), (a0.length * 24 ≤ 140737488351232 ∧ ∀ x0 ∈ a0, (x0.f0.size ≤ 140737488351232 ∧ (Lit.int .i64 x0.f1).wf = true)) → a1.size ≤ 140737488351232 → ∃ k, codesearchlaw50_UsageCounts.f k a0 a1 = some true := by
  intro l s _ _
  refine Ev.rounds (g := fun k => codesearchlaw50_UsageCounts.f k l s) ?_
  unfold codesearchlaw50_UsageCounts.f
  refine Ev.bind alive_ev ?_
  simp only [if_true]
  have j0 : Ev (fun k => codesearchlaw50_UsageCounts.j0 k l s true) true := by
    refine Ev.step (fun k => by rw [codesearchlaw50_UsageCounts.j0]) ?_
    simp only [if_true]
    exact Ev.now _
  refine Ev.bind (uses_ev l) ?_
  by_cases c2 : usesB l = true
  case neg => simp only [Bool.eq_false_iff.2 c2, Bool.false_eq_true, if_false]; exact j0
  simp only [c2, if_true]
  by_cases c3 : (s.size : Int) > 400
  · simp only [decide_eq_true c3]; exact j0
  simp only [decide_eq_false c3]
  have hll : l.length ≤ 60 := by
    unfold usesB at c2
    rw [Bool.and_eq_true] at c2
    exact of_decide_eq_true c2.1
  refine Ev.step (fun k => by rw [codesearchlaw50_UsageCounts.j0]) ?_
  simp only [Bool.false_eq_true, if_false]
  refine Ev.bind (play_ev l (by omega) RgC.nil (by simp)) ?_
  have hI := fold_inv s l (u := []) (a := (0, 0, 0)) ⟨RgC.nil, rfl, rfl⟩ (show (0 : Int) + l.length < 1000000 by omega)
  exact loop_go s l hll _ (foldU_rg l RgC.nil) (by have := foldU_len l []; simp at this; omega) l.length 0 (0, 0, 0) (by omega) (Int.le_refl _) (Int.le_refl _) (Int.le_refl _) (Int.le_refl _) (by rw [List.drop_zero]; exact hI)
end Go.Proofs.Ytbahkbnkbhhcdaa.Pure
