/-
  Plain facts on the document's functions of package usage: Right, both, put, and on Add and the uses one after the other. No program in sight.
-/
import Derived.Test.YtbahkbnkbhhcdaaPureA
import Derived.Test.YtbahkbnkbhhcdaaPAllx8
import Derived.Test.YtbahkbnkbhhcdaaPAllx9
import Derived.Test.YtbahkbnkbhhcdaaPAllx10
namespace Go.Proofs.Ytbahkbnkbhhcdaa.Pure
open Go.RowKit Go.Proofs.Ytbahkbnkbhhcdaa.PAll Go.Proofs.YtbahkbnkbhhcdaaW.PrintWords Go.Proofs.YtbahkbnkbhhcdaaW.PrintLast

theorem rnamed_f (s : ByteArray) : codesearchref50_named.f s = some (decide (1 ≤ s.size ∧ s.size ≤ 300)) := named_f s
theorem rright_go (l : List S34) (hl : l.length ≤ 1000000) : ∀ (d i : Nat), i + d = l.length → Ev (fun k => codesearchref50_Right.l0 k (i : Int) l) (rgB (prevS l i) (l.drop i))
  | 0, i, h => by
    refine Ev.step (fun k => by rw [codesearchref50_Right.l0]) ?_
    have h1 : ¬ ((i : Int) < (l.length : Int)) := by omega
    rw [List.drop_of_length_le (by omega)]
    simp only [if_neg h1, rgB]
    exact Ev.now _
  | d + 1, i, h => by
    refine Ev.step (fun k => by rw [codesearchref50_Right.l0]) ?_
    have hi : i < l.length := by omega
    have h1 : (i : Int) < (l.length : Int) := by omega
    have h2 : (0 : Int) ≤ (i : Int) := by omega
    have ih := rright_go l hl d (i + 1) (by omega)
    rw [List.drop_eq_getElem_cons hi, rgB]
    have hp : prevS l (i + 1) = some l[i] := List.getElem?_eq_getElem hi
    rw [hp] at ih
    simp only [if_pos h1, if_pos h2, rd34 l i hi, rnamed_f]
    have bad : Ev (fun k => codesearchref50_Right.j1 k (i : Int) true l l[i].f0 l[i].f1 l[i].f2) false := by
      refine Ev.step (fun k => by rw [codesearchref50_Right.j1]) ?_
      simp only [if_true]
      exact Ev.now _
    refine Ev.bind (Ev.now _) ?_
    by_cases c0 : 1 ≤ l[i].f0.size ∧ l[i].f0.size ≤ 300
    case neg =>
      rw [if_neg (fun h : vC l[i] => c0 ⟨h.1, h.2.1⟩)]
      simp only [decide_eq_false c0, Bool.false_eq_true, if_false]; exact bad
    simp only [decide_eq_true c0, if_true]
    by_cases c1 : l[i].f1 < 1
    · rw [if_neg (fun h : vC l[i] => by have := h.2.2.1; omega)]
      simp only [if_pos c1]; exact bad
    by_cases c2 : l[i].f1 > 1000000
    · rw [if_neg (fun h : vC l[i] => by have := h.2.2.2.1; omega)]
      simp only [if_neg c1, if_pos c2]; exact bad
    by_cases c3 : l[i].f2 < 0
    · rw [if_neg (fun h : vC l[i] => by have := h.2.2.2.2.1; omega)]
      simp only [if_neg c1, if_neg c2, if_pos c3]; exact bad
    by_cases c4 : l[i].f2 > 1000000
    · rw [if_neg (fun h : vC l[i] => by have := h.2.2.2.2.2; omega)]
      simp only [if_neg c1, if_neg c2, if_neg c3, decide_eq_true c4]; exact bad
    rw [if_pos (show vC l[i] from ⟨c0.1, c0.2, by omega, by omega, by omega, by omega⟩)]
    simp only [if_neg c1, if_neg c2, if_neg c3, decide_eq_false c4]
    refine Ev.step (fun k => by rw [codesearchref50_Right.j1]) ?_
    simp only [Bool.false_eq_true, if_false]
    cases i with
    | zero =>
      have z : ¬ (((0 : Nat) : Int) > 0) := by omega
      have u := up 0 (by omega)
      simp only [if_neg z, u, prevS, ascO, if_true]
      exact ih
    | succ j =>
      have z : (((j + 1 : Nat) : Int) > 0) := by omega
      have z1 : (0 : Int) ≤ (j : Int) := by omega
      have z2 : (j : Int) < (l.length : Int) := by omega
      have hp2 : prevS l (j + 1) = some l[j] := List.getElem?_eq_getElem (by omega)
      simp only [if_pos z, dn j (by omega), if_pos z1, if_pos z2, rd34 l j (by omega), hp2, ascO, up (j + 1) (by omega), bl_lt]
      by_cases d1 : l[j].f0.data.toList < l[j + 1].f0.data.toList
      · simp only [decide_eq_true d1, if_true]
        exact ih
      · simp only [decide_eq_false d1, Bool.false_eq_true, if_false]
        exact Ev.now _
theorem rright_ev (l : List S34) (hl : l.length ≤ 1000000) : Ev (fun k => codesearchref50_Right.f k l) (rgB none l) := by
  have := rright_go l hl l.length 0 (by omega)
  rw [List.drop_zero] at this
  exact this
/-! ### put -/
theorem both_f {x c : S34} (h : vC x) (k : vC c) : codesearchref50_both.f x.f0 x.f1 x.f2 c.f0 c.f1 c.f2 = some ((bothC x c).f0, (bothC x c).f1, (bothC x c).f2) := by
  obtain ⟨_, _, h1, h2, h3, _⟩ := h
  obtain ⟨_, _, k1, k2, k3, _⟩ := k
  unfold codesearchref50_both.f bothC
  have e1 : wrap64 (1000000 - x.f1) = 1000000 - x.f1 := by unfold wrap64; omega
  have e2 : wrap64 (x.f1 + c.f1) = x.f1 + c.f1 := by unfold wrap64; omega
  rw [e1, e2]
  by_cases a : c.f1 > 1000000 - x.f1
  · have m : min (x.f1 + c.f1) 1000000 = 1000000 := by omega
    by_cases b : c.f2 > x.f2
    · have n : max x.f2 c.f2 = c.f2 := by omega
      simp only [if_pos a, if_pos b, m, n]
    · have n : max x.f2 c.f2 = x.f2 := by omega
      simp only [if_pos a, if_neg b, m, n]
  · have m : min (x.f1 + c.f1) 1000000 = x.f1 + c.f1 := by omega
    by_cases b : c.f2 > x.f2
    · have n : max x.f2 c.f2 = c.f2 := by omega
      simp only [if_neg a, if_pos b, m, n]
    · have n : max x.f2 c.f2 = x.f2 := by omega
      simp only [if_neg a, if_neg b, m, n]
theorem put_done (u : List S34) (c : S34) (hl : u.length ≤ 1000000) : ∀ (d i : Nat) (out : List S34), i + d = u.length → out.length ≤ i + 1 → Ev (fun k => codesearchref50_put.l0 k true (i : Int) u c.f0 c.f1 c.f2 out) (out ++ u.drop i)
  | 0, i, out, h, ho => by
    refine Ev.step (fun k => by rw [codesearchref50_put.l0]) ?_
    have h1 : ¬ ((i : Int) < (u.length : Int)) := by omega
    rw [List.drop_of_length_le (by omega)]
    simp only [if_neg h1, if_true, List.append_nil]
    exact Ev.now _
  | d + 1, i, out, h, ho => by
    refine Ev.step (fun k => by rw [codesearchref50_put.l0]) ?_
    have hi : i < u.length := by omega
    have h1 : (i : Int) < (u.length : Int) := by omega
    have h2 : (0 : Int) ≤ (i : Int) := by omega
    have ih := put_done u c hl d (i + 1) (out ++ [u[i]]) (by omega) (by simp; omega)
    rw [List.drop_eq_getElem_cons hi]
    simp only [if_pos h1, if_pos h2, rd34 u i hi, if_true]
    refine Ev.step (fun k => by rw [codesearchref50_put.j1]) ?_
    simp only [Bool.false_eq_true, if_false, if_pos (show out.length < 4398046511104 by omega), up i (by omega)]
    simpa using ih
theorem put_go (u : List S34) (c : S34) (hl : u.length ≤ 1000000) (hu : ∀ x ∈ u, vC x) (hc : vC c) : ∀ (d i : Nat) (out : List S34), i + d = u.length → out.length ≤ i → Ev (fun k => codesearchref50_put.l0 k false (i : Int) u c.f0 c.f1 c.f2 out) (out ++ putR (u.drop i) c)
  | 0, i, out, h, ho => by
    refine Ev.step (fun k => by rw [codesearchref50_put.l0]) ?_
    have h1 : ¬ ((i : Int) < (u.length : Int)) := by omega
    rw [List.drop_of_length_le (by omega), putR]
    simp only [if_neg h1, Bool.false_eq_true, if_false, if_pos (show out.length < 4398046511104 by omega)]
    exact Ev.now _
  | d + 1, i, out, h, ho => by
    refine Ev.step (fun k => by rw [codesearchref50_put.l0]) ?_
    have hi : i < u.length := by omega
    have h1 : (i : Int) < (u.length : Int) := by omega
    have h2 : (0 : Int) ≤ (i : Int) := by omega
    rw [List.drop_eq_getElem_cons hi, putR]
    simp only [if_pos h1, if_pos h2, rd34 u i hi, Bool.false_eq_true, if_false, bl_lt]
    by_cases a : u[i].f0.data.toList < c.f0.data.toList
    · have ih := put_go u c hl hu hc d (i + 1) (out ++ [u[i]]) (by omega) (by simp; omega)
      simp only [decide_eq_true a, Bool.not_true, if_pos a]
      refine Ev.step (fun k => by rw [codesearchref50_put.j1]) ?_
      simp only [Bool.false_eq_true, if_false, if_pos (show out.length < 4398046511104 by omega), up i (by omega)]
      simpa using ih
    · simp only [decide_eq_false a, Bool.not_false, if_neg a]
      refine Ev.step (fun k => by rw [codesearchref50_put.j1]) ?_
      simp only [if_true]
      by_cases b : u[i].f0 = c.f0
      · have ih := put_done u c hl d (i + 1) (out ++ [bothC u[i] c]) (by omega) (by simp; omega)
        simp only [if_pos (show u[i].f0.toList = c.f0.toList from ba_list.2 b), if_pos b, both_f (hu _ (List.getElem_mem hi)) hc]
        refine Ev.bind (Ev.now _) ?_
        simp only [if_pos (show out.length < 4398046511104 by omega), up i (by omega)]
        simpa using ih
      · have ih := put_done u c hl d (i + 1) (out ++ [c] ++ [u[i]]) (by omega) (by simp; omega)
        simp only [if_neg (show ¬ u[i].f0.toList = c.f0.toList from fun e => b (ba_list.1 e)), if_neg b, if_pos (show out.length < 4398046511104 by omega)]
        refine Ev.bind (Ev.now _) ?_
        simp only [List.length_append, List.length_singleton, if_pos (show out.length + 1 < 4398046511104 by omega), up i (by omega)]
        simpa using ih
theorem put_ev {u : List S34} {c : S34} (hl : u.length ≤ 1000000) (hu : ∀ x ∈ u, vC x) (hc : vC c) : Ev (fun k => codesearchref50_put.f k u c.f0 c.f1 c.f2) (putR u c) := by
  have := put_go u c hl hu hc u.length 0 [] (by omega) (by simp)
  rw [List.drop_zero, List.nil_append] at this
  exact this
theorem putR_len (c : S34) : ∀ u : List S34, (putR u c).length ≤ u.length + 1
  | [] => by simp [putR]
  | x :: r => by
    have := putR_len c r
    rw [putR]
    split
    · simp only [List.length_cons]; omega
    · split <;> simp
theorem mergeR_len : ∀ (v u : List S34), (mergeR u v).length ≤ u.length + v.length
  | [], u => by simp [mergeR]
  | c :: v, u => by
    have h1 := mergeR_len v (putR u c)
    have h2 := putR_len c u
    show (mergeR (putR u c) v).length ≤ _
    simp only [List.length_cons]; omega
/-! ### Merge, Add, the uses one after the other -/
theorem mergef {u v : List S34} (hu : RgC u) (hv : ∀ x ∈ v, vC x) (hul : u.length ≤ 1000000) (hvl : v.length ≤ 1000000) : usage_Merge.f u v = some (mergeR u v) := by
  have hall : ((u ++ v).all fun x => decide (x.f0.size ≤ maxLen)) = true := List.all_eq_true.2 fun x hx => by
    have h1 : vC x := (List.mem_append.1 hx).elim (hu.val x) (hv x)
    have h2 := h1.2.1
    exact decide_eq_true (by simp only [maxLen]; omega)
  unfold usage_Merge.f
  rw [if_pos ⟨by omega, by omega, hall⟩, merge_eq hu hv]
def okU (x : S47) : Prop := (1 ≤ x.f0.size ∧ x.f0.size ≤ 300) ∧ 0 ≤ x.f1 ∧ x.f1 ≤ 1000000
instance (x : S47) : Decidable (okU x) := by unfold okU; exact inferInstance
def cnt (x : S47) : S34 := ⟨x.f0, 1, x.f1⟩
def addU (u : List S34) (x : S47) : List S34 := if okU x then putR u (cnt x) else u
theorem cnt_val {x : S47} (h : okU x) : vC (cnt x) := ⟨h.1.1, h.1.2, Int.le_refl _, (show (1 : Int) ≤ 1000000 by decide), h.2.1, h.2.2⟩
theorem addf {u : List S34} (hu : RgC u) (hul : u.length ≤ 900000) (x : S47) : usage_Add.f u x.f0 x.f1 = some (addU u x) := by
  unfold usage_Add.f addU
  rw [named_f, timed_f]
  by_cases a : 1 ≤ x.f0.size ∧ x.f0.size ≤ 300
  · by_cases b : 0 ≤ x.f1 ∧ x.f1 ≤ 1000000
    · have e : usage_Merge.f u [⟨x.f0, 1, x.f1⟩] = some (putR u (cnt x)) := mergef (v := [cnt x]) hu (fun y hy => by rw [List.mem_singleton.1 hy]; exact cnt_val ⟨a, b⟩) (by omega) (by simp)
      simp only [decide_eq_true a, decide_eq_true b, Option.bind_some, if_true, e, if_pos (show okU x from ⟨a, b⟩)]
    · simp only [decide_eq_true a, decide_eq_false b, Option.bind_some, if_true, Bool.false_eq_true, if_false, if_neg (fun h : okU x => b h.2)]
  · simp only [decide_eq_false a, Option.bind_some, Bool.false_eq_true, if_false, if_neg (fun h : okU x => a h.1)]
theorem addU_rg {u : List S34} (h : RgC u) (x : S47) : RgC (addU u x) := by
  unfold addU
  split
  · rename_i hx; exact putR_rg h (cnt_val hx)
  · exact h
theorem addU_len (u : List S34) (x : S47) : (addU u x).length ≤ u.length + 1 := by
  unfold addU
  split
  · exact putR_len _ _
  · omega
theorem play_go (l : List S47) (hl : l.length ≤ 1000) : ∀ (d i : Nat) (u : List S34), i + d = l.length → RgC u → u.length ≤ 1000 + i → Ev (fun k => codesearchlaw50_play.l0 k l (i : Int) u) ((l.drop i).foldl addU u)
  | 0, i, u, h, _, _ => by
    refine Ev.step (fun k => by rw [codesearchlaw50_play.l0]) ?_
    have h1 : ¬ ((i : Int) < (l.length : Int)) := by omega
    rw [List.drop_of_length_le (by omega)]
    simp only [if_neg h1, List.foldl_nil]
    exact Ev.now _
  | d + 1, i, u, h, hu, hul => by
    refine Ev.step (fun k => by rw [codesearchlaw50_play.l0]) ?_
    have hi : i < l.length := by omega
    have h1 : (i : Int) < (l.length : Int) := by omega
    have h2 : (0 : Int) ≤ (i : Int) := by omega
    have ih := play_go l hl d (i + 1) (addU u l[i]) (by omega) (addU_rg hu _) (by have := addU_len u l[i]; omega)
    rw [List.drop_eq_getElem_cons hi, List.foldl_cons]
    simp only [if_pos h1, if_pos h2, rd47 l i hi, up i (by omega), addf hu (by omega)]
    exact Ev.bind (Ev.now _) ih
theorem play_ev (l : List S47) (hl : l.length ≤ 1000) {u : List S34} (hu : RgC u) (hul : u.length ≤ 1000) : Ev (fun k => codesearchlaw50_play.f k u l) (l.foldl addU u) := by
  have := play_go l hl l.length 0 u (by omega) hu (by omega)
  rw [List.drop_zero] at this
  exact this
theorem foldU_rg : ∀ (l : List S47) {u : List S34}, RgC u → RgC (l.foldl addU u)
  | [], _, h => h
  | x :: l, _, h => foldU_rg l (addU_rg h x)
theorem foldU_len : ∀ (l : List S47) (u : List S34), (l.foldl addU u).length ≤ u.length + l.length
  | [], u => by simp
  | x :: l, u => by
    have h1 := foldU_len l (addU u x)
    have h2 := addU_len u x
    simp only [List.foldl_cons, List.length_cons]; omega
end Go.Proofs.Ytbahkbnkbhhcdaa.Pure
