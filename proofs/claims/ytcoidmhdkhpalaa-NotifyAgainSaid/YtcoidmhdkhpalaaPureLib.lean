/-
  Plain facts on the printed functions of package notify: reads of rows, alive. No program in sight.
-/
import Derived.Test.YtcoidmhdkhpalaaPAllx13
import Derived.Test.YtcoidmhdkhpalaaPAllx3
namespace Go.Proofs.Ytcoidmhdkhpalaa.Pure
open Go.RowKit Go.Proofs.Ytcoidmhdkhpalaa.PAll Go.Proofs.YtcoidmhdkhpalaaW.PrintWords Go.Proofs.YtcoidmhdkhpalaaW.PrintLast
theorem up (i : Nat) (h : i < 4611686018427387904) : wrap64 ((i : Int) + 1) = ((i + 1 : Nat) : Int) := by unfold wrap64; omega
theorem rd38 (l : List S38) (i : Nat) (h : i < l.length) : rd_T38 l (i : Int) = l[i] := by simp [rd_T38, h]
theorem rd36 (l : List S36) (i : Nat) (h : i < l.length) : rd_T36 l (i : Int) = l[i] := by simp [rd_T36, h]
theorem alive_f : codesearchlaw49_alive.f 60 = some true := rfl
theorem alive_ev : Ev (fun k => codesearchlaw49_alive.f k) true := Ev.of codesearchlaw49_alive.mono alive_f
theorem clone_f (l : List S38) (h : l.length ≤ 1000000) : api_Letter_28.f l = some l := by unfold api_Letter_28.f; rw [if_pos (by omega)]
end Go.Proofs.Ytcoidmhdkhpalaa.Pure
