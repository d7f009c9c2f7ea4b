/-
  UsageSums: Merge returns the defined counts, for all right counts (at most 60) on both sides. No condition beside the given statement's own.
-/
import Derived.Test.YtbahkbnkbhhcdaaPureB
import Derived.Test.YtbahkbnkbhhcdaaPureAlive
import Derived.Test.YtbahkbnkbhhcdaaPAllx14
namespace Go.Proofs.Ytbahkbnkbhhcdaa.Pure
open Go.RowKit Go.Proofs.Ytbahkbnkbhhcdaa.PAll Go.Proofs.YtbahkbnkbhhcdaaW.PrintWords Go.Proofs.YtbahkbnkbhhcdaaW.PrintLast
theorem rmerge_go (v : List S34) (hv : ∀ x ∈ v, vC x) (hl : v.length ≤ 1000) : ∀ (d i : Nat) (u : List S34), i + d = v.length → RgC u → u.length ≤ 1000 + i → Ev (fun k => codesearchref50_Merge.l0 k (i : Int) v u) (mergeR u (v.drop i))
  | 0, i, u, h, _, _ => by
    refine Ev.step (fun k => by rw [codesearchref50_Merge.l0]) ?_
    have h1 : ¬ ((i : Int) < (v.length : Int)) := by omega
    rw [List.drop_of_length_le (by omega)]
    simp only [if_neg h1]
    exact Ev.now _
  | d + 1, i, u, h, hu, hul => by
    refine Ev.step (fun k => by rw [codesearchref50_Merge.l0]) ?_
    have hi : i < v.length := by omega
    have h1 : (i : Int) < (v.length : Int) := by omega
    have h2 : (0 : Int) ≤ (i : Int) := by omega
    have hc := hv _ (List.getElem_mem hi)
    have ih := rmerge_go v hv hl d (i + 1) (putR u v[i]) (by omega) (putR_rg hu hc) (by have := putR_len v[i] u; omega)
    rw [List.drop_eq_getElem_cons hi]
    show Ev _ (mergeR (putR u v[i]) (v.drop (i + 1)))
    simp only [if_pos h1, if_pos h2, rd34 v i hi, up i (by omega)]
    exact Ev.bind (put_ev (by omega) hu.val hc) ih
theorem UsageSums : ∀ (a0 : S24) (a1 : S24), ((a0.f0.length * 32 ≤ 140737488351232 ∧ ∀ x0 ∈ a0.f0, (x0.f0.size ≤ 140737488351232 ∧ (Lit.int .i64 x0.f1).wf = true ∧ (Lit.int .i64 x0.f2).wf = true))) → ((a1.f0.length * 32 ≤ 140737488351232 ∧ ∀ x0 ∈ a1.f0, (x0.f0.size ≤ 140737488351232 ∧ (Lit.int .i64 x0.f1).wf = true ∧ (Lit.int .i64 x0.f2).wf = true))) → ∃ k, codesearchlaw50_UsageSums.f k a0.f0 a1.f0 = some true := by
  intro a0 a1 _ _
  obtain ⟨u⟩ := a0
  obtain ⟨v⟩ := a1
  show ∃ k, codesearchlaw50_UsageSums.f k u v = some true
  refine Ev.rounds (g := fun k => codesearchlaw50_UsageSums.f k u v) ?_
  unfold codesearchlaw50_UsageSums.f
  refine Ev.bind alive_ev ?_
  simp only [if_true]
  have j0 : Ev (fun k => codesearchlaw50_UsageSums.j0 k true u v) true := by
    refine Ev.step (fun k => by rw [codesearchlaw50_UsageSums.j0]) ?_
    simp only [if_true]
    exact Ev.now _
  refine Ev.bind (few_ev u) ?_
  by_cases c1 : fewB u = true
  case neg => simp only [Bool.eq_false_iff.2 c1, Bool.false_eq_true, if_false]; exact j0
  simp only [c1, if_true]
  refine Ev.bind (few_ev v) ?_
  by_cases c2 : fewB v = true
  case neg => simp only [Bool.eq_false_iff.2 c2, Bool.false_eq_true, if_false]; exact j0
  simp only [c2, if_true]
  have hul : u.length ≤ 60 := by
    unfold fewB at c1
    rw [Bool.and_eq_true] at c1
    exact of_decide_eq_true c1.1
  have hvl : v.length ≤ 60 := by
    unfold fewB at c2
    rw [Bool.and_eq_true] at c2
    exact of_decide_eq_true c2.1
  refine Ev.bind (rright_ev u (by omega)) ?_
  by_cases c3 : rgB none u = true
  case neg => simp only [if_neg c3]; exact j0
  simp only [if_pos c3]
  refine Ev.bind (rright_ev v (by omega)) ?_
  by_cases c4 : rgB none v = true
  case neg => simp only [Bool.eq_false_iff.2 c4, Bool.not_false]; exact j0
  simp only [c4, Bool.not_true]
  have hu := (rgB_iff.1 c3).1
  have hv := (rgB_iff.1 c4).1
  refine Ev.step (fun k => by rw [codesearchlaw50_UsageSums.j0]) ?_
  simp only [Bool.false_eq_true, if_false]
  refine Ev.bind (Ev.congr (fun _ => mergef hu hv.val (by omega) (by omega)) (Ev.now _)) ?_
  have hq := rmerge_go v hv.val (by omega) v.length 0 u (by omega) hu (by omega)
  rw [List.drop_zero] at hq
  refine Ev.bind hq ?_
  exact Ev.bind (same_ev _ (by have := mergeR_len v u; omega)) (Ev.now _)
end Go.Proofs.Ytbahkbnkbhhcdaa.Pure
