/-
  Plain facts on the printed functions of package notify: lists of letters and alerts that are the same. No program in sight.
-/
import Derived.Test.YtcoidmhdkhpalaaPAllx12
namespace Go.Proofs.Ytcoidmhdkhpalaa.Pure
open Go.RowKit Go.Proofs.Ytcoidmhdkhpalaa.PAll Go.Proofs.YtcoidmhdkhpalaaW.PrintWords Go.Proofs.YtcoidmhdkhpalaaW.PrintLast
theorem up (i : Nat) (h : i < 4611686018427387904) : wrap64 ((i : Int) + 1) = ((i + 1 : Nat) : Int) := by unfold wrap64; omega
theorem rd38 (l : List S38) (i : Nat) (h : i < l.length) : rd_T38 l (i : Int) = l[i] := by simp [rd_T38, h]
theorem rd36 (l : List S36) (i : Nat) (h : i < l.length) : rd_T36 l (i : Int) = l[i] := by simp [rd_T36, h]
theorem letters_go (l : List S38) (hl : l.length ≤ 1000000) : ∀ (d i : Nat), i + d = l.length → Ev (fun k => codesearchref49_Letters.l0 k l l (i : Int)) true
  | 0, i, h => by
    refine Ev.step (fun k => by rw [codesearchref49_Letters.l0]) ?_
    have h1 : ¬ ((i : Int) < (l.length : Int)) := by omega
    simp only [if_neg h1]
    exact Ev.now _
  | d + 1, i, h => by
    refine Ev.step (fun k => by rw [codesearchref49_Letters.l0]) ?_
    have hi : i < l.length := by omega
    have h1 : (i : Int) < (l.length : Int) := by omega
    have h2 : (0 : Int) ≤ (i : Int) := by omega
    simp only [if_pos h1, if_pos h2, beq_self_eq_true, Bool.not_true, Bool.or_self, Bool.false_eq_true, if_false, up i (by omega)]
    exact letters_go l hl d (i + 1) (by omega)
theorem letters_ev (l : List S38) (hl : l.length ≤ 1000000) : Ev (fun k => codesearchref49_Letters.f k l l) true := by
  unfold codesearchref49_Letters.f
  simp only [if_true]
  exact letters_go l hl l.length 0 (by omega)
theorem sameout_ev (a b : Int) (l : List S38) (hl : l.length ≤ 1000000) : Ev (fun k => codesearchref49_SameOut.f k a b l a b l) true := by
  unfold codesearchref49_SameOut.f
  simp only [if_true]
  exact Ev.bind (letters_ev l hl) (Ev.now _)
theorem alive_f : codesearchlaw49_alive.f 60 = some true := rfl
theorem alive_ev : Ev (fun k => codesearchlaw49_alive.f k) true := Ev.of codesearchlaw49_alive.mono alive_f
theorem clone_f (l : List S38) (h : l.length ≤ 1000000) : api_Letter_28.f l = some l := by unfold api_Letter_28.f; rw [if_pos (by omega)]
end Go.Proofs.Ytcoidmhdkhpalaa.Pure
