/-
  UsageAdds: Right reports what is defined, for all counts (at most 60), and Add gives the defined counts, for right ones and all uses (at most 60). No condition beside the given statement's own.
-/
import Derived.Test.YtbahkbnkbhhcdaaPureB
import Derived.Test.YtbahkbnkbhhcdaaPureAlive
import Derived.Test.YtbahkbnkbhhcdaaPAllx11
namespace Go.Proofs.Ytbahkbnkbhhcdaa.Pure
open Go.RowKit Go.Proofs.Ytbahkbnkbhhcdaa.PAll Go.Proofs.YtbahkbnkbhhcdaaW.PrintWords Go.Proofs.YtbahkbnkbhhcdaaW.PrintLast
theorem rAdd_ev {u : List S34} (hu : RgC u) (hul : u.length ≤ 900000) (x : S47) : Ev (fun k => codesearchref50_Add.f k u x.f0 x.f1) (addU u x) := by
  unfold codesearchref50_Add.f addU
  refine Ev.bind (Ev.congr (fun _ => rnamed_f _) (Ev.now _)) ?_
  by_cases a : 1 ≤ x.f0.size ∧ x.f0.size ≤ 300
  · by_cases b1 : x.f1 < 0
    · simp only [decide_eq_true a, if_true, if_pos b1, if_neg (fun h : okU x => absurd h.2.1 (by omega))]
      exact Ev.now _
    · by_cases b2 : x.f1 > 1000000
      · simp only [decide_eq_true a, if_true, if_neg b1, if_pos b2, if_neg (fun h : okU x => absurd h.2.2 (by omega))]
        exact Ev.now _
      · have hx : okU x := ⟨a, by omega, by omega⟩
        simp only [decide_eq_true a, if_true, if_neg b1, if_neg b2, if_pos hx]
        have := put_ev (c := cnt x) (show u.length ≤ 1000000 by omega) hu.val (cnt_val hx)
        exact Ev.bind this (Ev.now _)
  · simp only [decide_eq_false a, Bool.false_eq_true, if_false, if_neg (fun h : okU x => a h.1)]
    exact Ev.now _
theorem plain_go (l : List S47) (hl : l.length ≤ 1000) : ∀ (d i : Nat) (u : List S34), i + d = l.length → RgC u → u.length ≤ 1000 + i → Ev (fun k => codesearchlaw50_plain.l0 k l (i : Int) u) ((l.drop i).foldl addU u)
  | 0, i, u, h, _, _ => by
    refine Ev.step (fun k => by rw [codesearchlaw50_plain.l0]) ?_
    have h1 : ¬ ((i : Int) < (l.length : Int)) := by omega
    rw [List.drop_of_length_le (by omega)]
    simp only [if_neg h1, List.foldl_nil]
    exact Ev.now _
  | d + 1, i, u, h, hu, hul => by
    refine Ev.step (fun k => by rw [codesearchlaw50_plain.l0]) ?_
    have hi : i < l.length := by omega
    have h1 : (i : Int) < (l.length : Int) := by omega
    have h2 : (0 : Int) ≤ (i : Int) := by omega
    have ih := plain_go l hl d (i + 1) (addU u l[i]) (by omega) (addU_rg hu _) (by have := addU_len u l[i]; omega)
    rw [List.drop_eq_getElem_cons hi, List.foldl_cons]
    simp only [if_pos h1, if_pos h2, rd47 l i hi, up i (by omega)]
    exact Ev.bind (rAdd_ev hu (by omega) _) ih
theorem UsageAdds : ∀ (a0 : S24) (a1 : (List S47)), ((a0.f0.length * 32 ≤ 140737488351232 ∧ ∀ x0 ∈ a0.f0, (x0.f0.size ≤ 140737488351232 ∧ (Lit.int .i64 x0.f1).wf = true ∧ (Lit.int .i64 x0.f2).wf = true))) → (a1.length * 24 ≤ 140737488351232 ∧ ∀ x0 ∈ a1, (x0.f0.size ≤ 140737488351232 ∧ (Lit.int .i64 x0.f1).wf = true)) → ∃ k, codesearchlaw50_UsageAdds.f k a0.f0 a1 = some true := by
  intro a0 l _ _
  obtain ⟨u⟩ := a0
  show ∃ k, codesearchlaw50_UsageAdds.f k u l = some true
  refine Ev.rounds (g := fun k => codesearchlaw50_UsageAdds.f k u l) ?_
  unfold codesearchlaw50_UsageAdds.f
  refine Ev.bind alive_ev ?_
  simp only [if_true]
  have j0 : Ev (fun k => codesearchlaw50_UsageAdds.j0 k l true u) true := by
    refine Ev.step (fun k => by rw [codesearchlaw50_UsageAdds.j0]) ?_
    simp only [if_true]
    exact Ev.now _
  refine Ev.bind (few_ev u) ?_
  by_cases c1 : fewB u = true
  case neg => simp only [Bool.eq_false_iff.2 c1, Bool.false_eq_true, if_false]; exact j0
  simp only [c1, if_true]
  refine Ev.bind (uses_ev l) ?_
  by_cases c2 : usesB l = true
  case neg => simp only [Bool.eq_false_iff.2 c2, Bool.not_false]; exact j0
  simp only [c2, Bool.not_true]
  have hul : u.length ≤ 60 := by
    unfold fewB at c1
    rw [Bool.and_eq_true] at c1
    exact of_decide_eq_true c1.1
  have hll : l.length ≤ 60 := by
    unfold usesB at c2
    rw [Bool.and_eq_true] at c2
    exact of_decide_eq_true c2.1
  refine Ev.step (fun k => by rw [codesearchlaw50_UsageAdds.j0]) ?_
  simp only [Bool.false_eq_true, if_false]
  refine Ev.bind (right_ev u (by omega)) ?_
  refine Ev.bind (rright_ev u (by omega)) ?_
  simp only [bne_self_eq_false, Bool.false_eq_true, if_false]
  by_cases c3 : rgB none u = true
  case neg => simp only [if_neg c3]; exact Ev.now _
  simp only [if_pos c3]
  have hu := (rgB_iff.1 c3).1
  have hp := play_ev l (by omega) hu (by omega)
  have hq := plain_go l (by omega) l.length 0 u (by omega) hu (by omega)
  rw [List.drop_zero] at hq
  refine Ev.bind hp (Ev.bind hq ?_)
  exact Ev.bind (same_ev _ (by have := foldU_len l u; omega)) (Ev.now _)
end Go.Proofs.Ytbahkbnkbhhcdaa.Pure
