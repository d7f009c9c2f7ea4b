/-
  Plain facts on Post of package notify. No program in sight.
-/
import Derived.Test.YtcoidmhdkhpalaaPureLib
import Derived.Test.YtcoidmhdkhpalaaPAllx4
namespace Go.Proofs.Ytcoidmhdkhpalaa.Pure
open Go.RowKit Go.Proofs.Ytcoidmhdkhpalaa.PAll Go.Proofs.YtcoidmhdkhpalaaW.PrintWords Go.Proofs.YtcoidmhdkhpalaaW.PrintLast
def lettersL (tu : Int) : Int → List S36 → List S38
  | _, [] => []
  | n, a :: r => ⟨tu, wrap64 (n + 1), a⟩ :: lettersL tu (wrap64 (n + 1)) r
def lastL : Int → List S36 → Int
  | n, [] => n
  | n, _ :: r => lastL (wrap64 (n + 1)) r
theorem lettersL_len (tu : Int) : ∀ (l : List S36) (n : Int), (lettersL tu n l).length = l.length
  | [], _ => rfl
  | a :: r, n => by rw [lettersL, List.length_cons, lettersL_len tu r, List.length_cons]
def postR (tu last : Int) (mail : List S38) (l : List S36) : Int × Int × List S38 × List S38 × Int :=
  if 0 < l.length ∧ last > 9999 - (l.length : Int) then (0, 0, [], [], 2) else if 64 < mail.length + l.length then (0, 0, [], [], 9)
  else (tu, lastL last l, mail ++ lettersL tu last l, lettersL tu last l, 0)
theorem postR_len (tu last : Int) (mail : List S38) (l : List S36) : (postR tu last mail l).2.2.1.length ≤ 64 ∧ (postR tu last mail l).2.2.2.1.length ≤ 64 := by
  unfold postR
  split
  · simp
  · split
    · simp
    · simp only [List.length_append, lettersL_len]; omega
theorem post_go (tu : Int) (mail : List S38) (l : List S36) (hm : mail.length ≤ 1000) (hl : l.length ≤ 1000) : ∀ (d i : Nat) (out : List S38) (last : Int), i + d = l.length → out.length ≤ i →
    Ev (fun k => notify_Post.l0 k out l (l.length : Int) (i : Int) tu last mail) (tu, lastL last (l.drop i), mail ++ (out ++ lettersL tu last (l.drop i)), out ++ lettersL tu last (l.drop i), 0)
  | 0, i, out, last, h, ho => by
    refine Ev.step (fun k => by rw [notify_Post.l0]) ?_
    have h1 : ¬ ((i : Int) < (l.length : Int)) := by omega
    rw [List.drop_of_length_le (by omega), lettersL, lastL, List.append_nil]
    simp only [if_neg h1, clone_f mail (by omega), Option.bind_some, if_pos (show mail.length + out.length < 2199023255552 by omega)]
    exact Ev.now _
  | d + 1, i, out, last, h, ho => by
    refine Ev.step (fun k => by rw [notify_Post.l0]) ?_
    have hi : i < l.length := by omega
    have h1 : (i : Int) < (l.length : Int) := by omega
    have h2 : (0 : Int) ≤ (i : Int) := by omega
    have ih := post_go tu mail l hm hl d (i + 1) (out ++ [⟨tu, wrap64 (last + 1), l[i]⟩]) (wrap64 (last + 1)) (by omega) (by simp; omega)
    rw [List.drop_eq_getElem_cons hi, lettersL, lastL]
    simp only [if_pos h1, if_pos h2, if_pos (show out.length < 2199023255552 by omega), rd36 l i hi, up i (by omega)]
    rw [List.append_assoc] at ih
    exact ih
theorem post_ev (tu last : Int) (mail : List S38) (l : List S36) (hm : mail.length ≤ 1000) (hl : l.length ≤ 1000) : Ev (fun k => notify_Post.f k tu last mail l) (postR tu last mail l) := by
  have hw : wrap64 (9999 - (l.length : Int)) = 9999 - (l.length : Int) := by unfold wrap64; omega
  have hw2 : wrap64 ((mail.length : Int) + (l.length : Int)) = (mail.length : Int) + (l.length : Int) := by unfold wrap64; omega
  have good : ¬ (0 < l.length ∧ last > 9999 - (l.length : Int)) → Ev (fun k => notify_Post.j0 k l false tu last mail) (postR tu last mail l) := fun hn => by
    refine Ev.step (fun k => by rw [notify_Post.j0]) ?_
    simp only [Bool.false_eq_true, if_false, hw2]
    unfold postR
    rw [if_neg hn]
    by_cases c : 64 < mail.length + l.length
    · rw [if_pos c]
      simp only [if_pos (show (mail.length : Int) + (l.length : Int) > 64 by omega)]
      exact Ev.now _
    · rw [if_neg c]
      simp only [if_neg (show ¬ (mail.length : Int) + (l.length : Int) > 64 by omega)]
      have := post_go tu mail l hm hl l.length 0 [] last (by omega) (by simp)
      rw [List.drop_zero, List.nil_append] at this
      exact this
  unfold notify_Post.f
  by_cases c0 : (l.length : Int) > 0
  · simp only [if_pos c0, hw]
    by_cases c1 : last > 9999 - (l.length : Int)
    · simp only [decide_eq_true c1]
      refine Ev.step (fun k => by rw [notify_Post.j0]) ?_
      unfold postR
      rw [if_pos ⟨by omega, c1⟩]
      simp only [if_true]
      exact Ev.now _
    · simp only [decide_eq_false c1]
      exact good fun h => c1 h.2
  · simp only [if_neg c0]
    exact good fun h => c0 (by omega)
end Go.Proofs.Ytcoidmhdkhpalaa.Pure
