/-
  Plain facts on Post of package notify and of the document: both give the same. No program in sight.
-/
import Derived.Test.YtcoidmhdkhpalaaPureLib
namespace Go.Proofs.Ytcoidmhdkhpalaa.Pure
open Go.RowKit Go.Proofs.Ytcoidmhdkhpalaa.PAll Go.Proofs.YtcoidmhdkhpalaaW.PrintWords Go.Proofs.YtcoidmhdkhpalaaW.PrintLast
def lettersL (tu : Int) : Int → List S36 → List S38
  | _, [] => []
  | n, a :: r => ⟨tu, wrap64 (n + 1), a⟩ :: lettersL tu (wrap64 (n + 1)) r
def lastL : Int → List S36 → Int
  | n, [] => n
  | n, _ :: r => lastL (wrap64 (n + 1)) r
theorem lettersL_len (tu : Int) : ∀ (l : List S36) (n : Int), (lettersL tu n l).length = l.length
  | [], _ => rfl
  | a :: r, n => by rw [lettersL, List.length_cons, lettersL_len tu r, List.length_cons]
def postR (tu last : Int) (mail : List S38) (l : List S36) : Int × Int × List S38 × List S38 × Int :=
  if 0 < l.length ∧ last > 9999 - (l.length : Int) then (0, 0, [], [], 2) else if 64 < mail.length + l.length then (0, 0, [], [], 9)
  else (tu, lastL last l, mail ++ lettersL tu last l, lettersL tu last l, 0)
theorem postR_len (tu last : Int) (mail : List S38) (l : List S36) : (postR tu last mail l).2.2.1.length ≤ 64 ∧ (postR tu last mail l).2.2.2.1.length ≤ 64 := by
  unfold postR
  split
  · simp
  · split
    · simp
    · simp only [List.length_append, lettersL_len]; omega
theorem post_go (tu : Int) (mail : List S38) (l : List S36) (hm : mail.length ≤ 1000) (hl : l.length ≤ 1000) : ∀ (d i : Nat) (out : List S38) (last : Int), i + d = l.length → out.length ≤ i →
    Ev (fun k => notify_Post.l0 k out l (l.length : Int) (i : Int) tu last mail) (tu, lastL last (l.drop i), mail ++ (out ++ lettersL tu last (l.drop i)), out ++ lettersL tu last (l.drop i), 0)
  | 0, i, out, last, h, ho => by
    refine Ev.step (fun k => by rw [notify_Post.l0]) ?_
    have h1 : ¬ ((i : Int) < (l.length : Int)) := by omega
    rw [List.drop_of_length_le (by omega), lettersL, lastL, List.append_nil]
    simp only [if_neg h1, clone_f mail (by omega), Option.bind_some, if_pos (show mail.length + out.length < 2199023255552 by omega)]
    exact Ev.now _
  | d + 1, i, out, last, h, ho => by
    refine Ev.step (fun k => by rw [notify_Post.l0]) ?_
    have hi : i < l.length := by omega
    have h1 : (i : Int) < (l.length : Int) := by omega
    have h2 : (0 : Int) ≤ (i : Int) := by omega
    have ih := post_go tu mail l hm hl d (i + 1) (out ++ [⟨tu, wrap64 (last + 1), l[i]⟩]) (wrap64 (last + 1)) (by omega) (by simp; omega)
    rw [List.drop_eq_getElem_cons hi, lettersL, lastL]
    simp only [if_pos h1, if_pos h2, if_pos (show out.length < 2199023255552 by omega), rd36 l i hi, up i (by omega)]
    rw [List.append_assoc] at ih
    exact ih
theorem post_ev (tu last : Int) (mail : List S38) (l : List S36) (hm : mail.length ≤ 1000) (hl : l.length ≤ 1000) : Ev (fun k => notify_Post.f k tu last mail l) (postR tu last mail l) := by
  have hw : wrap64 (9999 - (l.length : Int)) = 9999 - (l.length : Int) := by unfold wrap64; omega
  have hw2 : wrap64 ((mail.length : Int) + (l.length : Int)) = (mail.length : Int) + (l.length : Int) := by unfold wrap64; omega
  have good : ¬ (0 < l.length ∧ last > 9999 - (l.length : Int)) → Ev (fun k => notify_Post.j0 k l false tu last mail) (postR tu last mail l) := fun hn => by
    refine Ev.step (fun k => by rw [notify_Post.j0]) ?_
    simp only [Bool.false_eq_true, if_false, hw2]
    unfold postR
    rw [if_neg hn]
    by_cases c : 64 < mail.length + l.length
    · rw [if_pos c]
      simp only [if_pos (show (mail.length : Int) + (l.length : Int) > 64 by omega)]
      exact Ev.now _
    · rw [if_neg c]
      simp only [if_neg (show ¬ (mail.length : Int) + (l.length : Int) > 64 by omega)]
      have := post_go tu mail l hm hl l.length 0 [] last (by omega) (by simp)
      rw [List.drop_zero, List.nil_append] at this
      exact this
  unfold notify_Post.f
  by_cases c0 : (l.length : Int) > 0
  · simp only [if_pos c0, hw]
    by_cases c1 : last > 9999 - (l.length : Int)
    · simp only [decide_eq_true c1]
      refine Ev.step (fun k => by rw [notify_Post.j0]) ?_
      unfold postR
      rw [if_pos ⟨by omega, c1⟩]
      simp only [if_true]
      exact Ev.now _
    · simp only [decide_eq_false c1]
      exact good fun h => c1 h.2
  · simp only [if_neg c0]
    exact good fun h => c0 (by omega)
theorem rpost1_go (tu' : Int) (tu last0 : Int) (mail : List S38) (l : List S36) (hl : l.length ≤ 1000) : ∀ (d i : Nat) (out m : List S38) (last : Int), i + d = l.length → out.length ≤ i → m.length ≤ 1000 + i →
    Ev (fun k => codesearchref49_Post.l1 k l out (i : Int) tu last0 mail tu' last m) (tu', lastL last (l.drop i), m ++ lettersL tu last (l.drop i), out ++ lettersL tu last (l.drop i), 0)
  | 0, i, out, m, last, h, ho, hm => by
    refine Ev.step (fun k => by rw [codesearchref49_Post.l1]) ?_
    have h1 : ¬ ((i : Int) < (l.length : Int)) := by omega
    rw [List.drop_of_length_le (by omega), lettersL, lastL, List.append_nil, List.append_nil]
    simp only [if_neg h1]
    exact Ev.now _
  | d + 1, i, out, m, last, h, ho, hm => by
    refine Ev.step (fun k => by rw [codesearchref49_Post.l1]) ?_
    have hi : i < l.length := by omega
    have h1 : (i : Int) < (l.length : Int) := by omega
    have h2 : (0 : Int) ≤ (i : Int) := by omega
    have ih := rpost1_go tu' tu last0 mail l hl d (i + 1) (out ++ [⟨tu, wrap64 (last + 1), l[i]⟩]) (m ++ [⟨tu, wrap64 (last + 1), l[i]⟩]) (wrap64 (last + 1)) (by omega) (by simp; omega) (by simp; omega)
    rw [List.drop_eq_getElem_cons hi, lettersL, lastL]
    simp only [if_pos h1, if_pos h2, if_pos (show out.length < 2199023255552 by omega), if_pos (show m.length < 2199023255552 by omega), rd36 l i hi, up i (by omega)]
    rw [List.append_assoc, List.append_assoc] at ih
    exact ih
theorem rpost0_go (tu' last' : Int) (tu last0 : Int) (mail : List S38) (l : List S36) (hm : mail.length ≤ 1000) (hl : l.length ≤ 1000) : ∀ (d i : Nat) (m : List S38), i + d = mail.length → m.length ≤ i →
    Ev (fun k => codesearchref49_Post.l0 k l (i : Int) tu last0 mail tu' last' m) (tu', lastL last' l, (m ++ mail.drop i) ++ lettersL tu last' l, lettersL tu last' l, 0)
  | 0, i, m, h, ho => by
    refine Ev.step (fun k => by rw [codesearchref49_Post.l0]) ?_
    have h1 : ¬ ((i : Int) < (mail.length : Int)) := by omega
    rw [List.drop_of_length_le (by omega), List.append_nil]
    simp only [if_neg h1]
    have := rpost1_go tu' tu last0 mail l hl l.length 0 [] m last' (by omega) (by simp) (by omega)
    rw [List.drop_zero] at this
    exact this
  | d + 1, i, m, h, ho => by
    refine Ev.step (fun k => by rw [codesearchref49_Post.l0]) ?_
    have hi : i < mail.length := by omega
    have h1 : (i : Int) < (mail.length : Int) := by omega
    have h2 : (0 : Int) ≤ (i : Int) := by omega
    have ih := rpost0_go tu' last' tu last0 mail l hm hl d (i + 1) (m ++ [mail[i]]) (by omega) (by simp; omega)
    rw [List.drop_eq_getElem_cons hi]
    simp only [if_pos h1, if_pos h2, if_pos (show m.length < 2199023255552 by omega), rd38 mail i hi, up i (by omega)]
    rw [show m ++ [mail[i]] ++ mail.drop (i + 1) = m ++ mail[i] :: mail.drop (i + 1) by simp] at ih
    exact ih
theorem rpost_ev (tu last : Int) (mail : List S38) (l : List S36) (hm : mail.length ≤ 1000) (hl : l.length ≤ 1000) : Ev (fun k => codesearchref49_Post.f k tu last mail l) (postR tu last mail l) := by
  have hw : wrap64 (9999 - (l.length : Int)) = 9999 - (l.length : Int) := by unfold wrap64; omega
  have hw2 : wrap64 (64 - (mail.length : Int)) = 64 - (mail.length : Int) := by unfold wrap64; omega
  have full : 64 < mail.length + l.length → Ev (fun k => codesearchref49_Post.j1 k l true tu last mail) (0, 0, [], [], 9) := fun _ => by
    refine Ev.step (fun k => by rw [codesearchref49_Post.j1]) ?_
    simp only [if_true]
    exact Ev.now _
  have good : ¬ (0 < l.length ∧ last > 9999 - (l.length : Int)) → Ev (fun k => codesearchref49_Post.j0 k l false tu last mail) (postR tu last mail l) := fun hn => by
    refine Ev.step (fun k => by rw [codesearchref49_Post.j0]) ?_
    simp only [Bool.false_eq_true, if_false, hw2]
    unfold postR
    rw [if_neg hn]
    by_cases c : 64 < mail.length + l.length
    · rw [if_pos c]
      by_cases c2 : (mail.length : Int) > 64
      · simp only [if_pos c2]; exact full c
      · simp only [if_neg c2, decide_eq_true (show (l.length : Int) > 64 - (mail.length : Int) by omega)]; exact full c
    · rw [if_neg c]
      simp only [if_neg (show ¬ (mail.length : Int) > 64 by omega), decide_eq_false (show ¬ (l.length : Int) > 64 - (mail.length : Int) by omega)]
      refine Ev.step (fun k => by rw [codesearchref49_Post.j1]) ?_
      simp only [Bool.false_eq_true, if_false]
      have := rpost0_go tu last tu last mail l hm hl mail.length 0 [] (by omega) (by simp)
      rw [List.drop_zero, List.nil_append] at this
      exact this
  unfold codesearchref49_Post.f
  by_cases c0 : (l.length : Int) > 0
  · simp only [if_pos c0, hw]
    by_cases c1 : last > 9999 - (l.length : Int)
    · simp only [decide_eq_true c1]
      refine Ev.step (fun k => by rw [codesearchref49_Post.j0]) ?_
      unfold postR
      rw [if_pos ⟨by omega, c1⟩]
      simp only [if_true]
      exact Ev.now _
    · simp only [decide_eq_false c1]
      exact good fun h => c1 h.2
  · simp only [if_neg c0]
    exact good fun h => c0 (by omega)
end Go.Proofs.Ytcoidmhdkhpalaa.Pure
