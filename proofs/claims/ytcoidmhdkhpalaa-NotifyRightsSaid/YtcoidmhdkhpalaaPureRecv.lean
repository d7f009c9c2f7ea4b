/-
  Plain facts on Receive of package notify. No program in sight.
-/
import Derived.Test.YtcoidmhdkhpalaaPureLib
import Derived.Test.YtcoidmhdkhpalaaPAllx6
namespace Go.Proofs.Ytcoidmhdkhpalaa.Pure
open Go.RowKit Go.Proofs.Ytcoidmhdkhpalaa.PAll Go.Proofs.YtcoidmhdkhpalaaW.PrintWords Go.Proofs.YtcoidmhdkhpalaaW.PrintLast
def isN (n : Int) (y : S38) : Bool := decide (y.f1 = n)
def gtN (n : Int) (y : S38) : Bool := decide (n < y.f1)
def insL (m : S38) : List S38 → List S38
  | [] => [m]
  | y :: r => if m.f1 < y.f1 then m :: y :: r else y :: insL m r
theorem insL_len (m : S38) : ∀ l : List S38, (insL m l).length = l.length + 1
  | [] => rfl
  | y :: r => by
    rw [insL]
    split
    · rfl
    · rw [List.length_cons, insL_len m r, List.length_cons]
theorem insL_eq (m : S38) : ∀ l : List S38, insL m l = if l.any (gtN m.f1) then l.take (l.findIdx (gtN m.f1)) ++ m :: l.drop (l.findIdx (gtN m.f1)) else l ++ [m]
  | [] => rfl
  | y :: r => by
    rw [insL, List.any_cons, List.findIdx_cons]
    by_cases c : m.f1 < y.f1
    · have e : gtN m.f1 y = true := decide_eq_true c
      rw [if_pos c, e]; simp
    · have e : gtN m.f1 y = false := decide_eq_false c
      rw [if_neg c, e, insL_eq m r]
      simp only [Bool.false_or, cond_false]
      split
      · rw [List.take_succ_cons, List.drop_succ_cons]; rfl
      · rfl
theorem waitL_eq (l : List S38) (m : S38) : waitL l m = if l.any (isN m.f1) then l else insL m l := by
  rw [insL_eq]; rfl
theorem cut_len {e : List S38} {q : Nat} (h : q < e.length) : (e.take q ++ e.drop (q + 1)).length = e.length - 1 := by simp; omega
def recvR (u n : Int) (g : List S36) (e : List S38) (m : S38) : Int × Int × List S36 × List S38 × Int :=
  if m.f0 ≠ u ∨ m.f1 < n then (u, n, g, e, wrap64 (n - 1))
  else if n < m.f1 then (u, n, g, waitL e m, wrap64 (n - 1))
  else (u, (acceptL e.length (wrap64 (n + 1)) (g ++ [m.f2]) e).1, (acceptL e.length (wrap64 (n + 1)) (g ++ [m.f2]) e).2.1, (acceptL e.length (wrap64 (n + 1)) (g ++ [m.f2]) e).2.2, wrap64 ((acceptL e.length (wrap64 (n + 1)) (g ++ [m.f2]) e).1 - 1))
theorem recv_f (u n : Int) (g : List S36) (e : List S38) (m : S38) (hl : g.length + e.length ≤ 100000) : notify_Receive.f u n g e m.f0 m.f1 m.f2.f0 m.f2.f1 m.f2.f2 m.f2.f3 = some (recvR u n g e m) := by
  unfold notify_Receive.f recvR
  rw [if_pos (by omega)]
  split
  · rfl
  · split
    · rfl
    · rfl
theorem acceptL_len : ∀ (k : Nat) (n : Int) (g : List S36) (e : List S38), (acceptL k n g e).2.1.length + (acceptL k n g e).2.2.length ≤ g.length + e.length
  | 0, n, g, e => Nat.le_refl _
  | k + 1, n, g, e => by
    rw [acceptL]
    split
    · rename_i h
      have hq : e.findIdx (isN n) < e.length := List.findIdx_lt_length.2 (List.any_eq_true.1 h)
      refine Nat.le_trans (acceptL_len k _ _ _) ?_
      have := cut_len hq
      show (g ++ [_]).length + (e.take (e.findIdx (isN n)) ++ e.drop (e.findIdx (isN n) + 1)).length ≤ _
      rw [this]; simp; omega
    · exact Nat.le_refl _
theorem recvR_len (u n : Int) (g : List S36) (e : List S38) (m : S38) : (recvR u n g e m).2.2.1.length + (recvR u n g e m).2.2.2.1.length ≤ g.length + e.length + 1 := by
  unfold recvR
  split
  · simp
  · split
    · rw [waitL_eq]
      split
      · simp
      · rw [insL_len]; simp; omega
    · have := acceptL_len e.length (wrap64 (n + 1)) (g ++ [m.f2]) e
      simp at this
      simp; omega
end Go.Proofs.Ytcoidmhdkhpalaa.Pure
