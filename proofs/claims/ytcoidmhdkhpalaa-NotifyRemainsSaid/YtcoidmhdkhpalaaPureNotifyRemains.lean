/-
  NotifyRemains: what Right says remains true after Post, Receive and Ack. No condition beside the given statement's own.
-/
import Derived.Test.YtcoidmhdkhpalaaPAllk
import Derived.Test.YtcoidmhdkhpalaaPureRinv
import Derived.Test.YtcoidmhdkhpalaaPureAck
import Derived.Test.YtcoidmhdkhpalaaPurePost
import Derived.Test.YtcoidmhdkhpalaaPAllx32
namespace Go.Proofs.Ytcoidmhdkhpalaa.Pure
open Go.RowKit Go.Proofs.Ytcoidmhdkhpalaa.PAll Go.Proofs.YtcoidmhdkhpalaaW.PrintWords Go.Proofs.YtcoidmhdkhpalaaW.PrintLast
theorem acc {last : Int} {mail : List S38} (l9 : last ≤ 9999) (hmx : ∀ m ∈ mail, m.f1 ≤ last) : ∀ (k : Nat) (n : Int) (g : List S36) (E : List S38), 1 ≤ n → n ≤ last + 1 → (g.length : Int) = n - 1 → Srt E → (∀ m ∈ E, n ≤ m.f1 ∧ m ∈ mail) → E.length ≤ k →
    n ≤ (acceptL k n g E).1 ∧ (acceptL k n g E).1 ≤ last + 1 ∧ ((acceptL k n g E).2.1.length : Int) = (acceptL k n g E).1 - 1 ∧ Srt (acceptL k n g E).2.2 ∧ ∀ m ∈ (acceptL k n g E).2.2, (acceptL k n g E).1 < m.f1 ∧ m ∈ mail
  | 0, n, g, E, h1, hn, hg, hs, hm, hk => by
    have : E = [] := List.length_eq_zero_iff.1 (by omega)
    subst this
    exact ⟨Int.le_refl _, hn, hg, hs, fun m h => absurd h List.not_mem_nil⟩
  | k + 1, n, g, E, h1, hn, hg, hs, hm, hk => by
    by_cases c : E.any (isN n) = true
    · have hq : E.findIdx (isN n) < E.length := List.findIdx_lt_length.2 (List.any_eq_true.1 c)
      have hat : E[E.findIdx (isN n)].f1 = n := of_decide_eq_true (List.findIdx_getElem (w := hq))
      have hx : acceptL (k + 1) n g E = acceptL k (wrap64 (n + 1)) (g ++ [(E.getD (E.findIdx (isN n)) z38).f2]) (E.take (E.findIdx (isN n)) ++ E.drop (E.findIdx (isN n) + 1)) := by
        rw [acceptL]; exact if_pos c
      rw [hx]
      generalize E.findIdx (isN n) = q at hq hat
      have hl := hmx _ (hm _ (List.getElem_mem hq)).2
      rw [hat] at hl
      have hE : E.take q ++ E[q] :: E.drop (q + 1) = E := by rw [← List.drop_eq_getElem_cons hq, List.take_append_drop]
      have hs' : Srt (E.take q ++ E[q] :: E.drop (q + 1)) := by rw [hE]; exact hs
      have hp := List.pairwise_append.1 hs'
      have hp2 := List.pairwise_cons.1 hp.2.1
      have hw : wrap64 (n + 1) = n + 1 := by unfold wrap64; omega
      rw [hw]
      have ih := acc l9 hmx k (n + 1) (g ++ [(E.getD q z38).f2]) (E.take q ++ E.drop (q + 1)) (by omega) (by omega) (by simp; omega) (List.pairwise_append.2 ⟨hp.1, hp2.2, fun x hx y hy => hp.2.2 x hx y (List.mem_cons_of_mem _ hy)⟩) (fun m hm' => by
        rcases List.mem_append.1 hm' with h | h
        · have h5 := hp.2.2 m h _ List.mem_cons_self
          rw [hat] at h5
          have := (hm m (List.mem_of_mem_take h)).1
          omega
        · have h5 := hp2.1 m h
          rw [hat] at h5
          exact ⟨by omega, (hm m (List.mem_of_mem_drop h)).2⟩) (by rw [cut_len hq]; omega)
      exact ⟨by omega, ih.2⟩
    · have hx := acceptL_stop (n := n) (g := g) (e := E) (Bool.eq_false_iff.2 c) (k + 1)
      rw [hx]
      refine ⟨Int.le_refl _, hn, hg, hs, fun m h => ⟨?_, (hm m h).2⟩⟩
      have h1 := (hm m h).1
      have h2 : ¬ m.f1 = n := fun e => c (List.any_eq_true.2 ⟨m, h, decide_eq_true e⟩)
      show n < m.f1
      omega
theorem recv_R {tu last : Int} {mail : List S38} {next : Int} {got : List S36} {early : List S38} (I : RInv tu last mail next got early) (j : Nat) (hj : j < mail.length) :
    ∃ (n' : Int) (g' : List S36) (e' : List S38), recvR tu next got early mail[j] = (tu, n', g', e', n' - 1) ∧ RInv tu last mail n' g' e' := by
  obtain ⟨l0, l9, kl, nums, n1, nl, nk, gl, srt, ems⟩ := I
  have hN := nums j hj
  have hw : wrap64 (next - 1) = next - 1 := by unfold wrap64; omega
  unfold recvR
  by_cases c : mail[j].f1 < next
  · rw [if_pos (.inr c), hw]
    exact ⟨next, got, early, rfl, l0, l9, kl, nums, n1, nl, nk, gl, srt, ems⟩
  rw [if_neg (by rintro (h | h); exact h hN.1; exact c h)]
  by_cases c2 : next < mail[j].f1
  · rw [if_pos c2, hw, waitL_eq]
    by_cases c3 : early.any (isN mail[j].f1) = true
    · rw [if_pos c3]
      exact ⟨next, got, early, rfl, l0, l9, kl, nums, n1, nl, nk, gl, srt, ems⟩
    · rw [if_neg c3]
      refine ⟨next, got, _, rfl, l0, l9, kl, nums, n1, nl, nk, gl, insL_srt _ _ srt fun y hy e => c3 (List.any_eq_true.2 ⟨y, hy, decide_eq_true e⟩), fun m hm => ?_⟩
      rcases (insL_mem _ _ _).1 hm with e | e
      · subst e; exact ⟨c2, List.getElem_mem hj⟩
      · exact ems m e
  · rw [if_neg c2]
    have hw2 : wrap64 (next + 1) = next + 1 := by unfold wrap64; omega
    rw [hw2]
    have hmx : ∀ m ∈ mail, m.f1 ≤ last := fun m hm => by
      obtain ⟨i, hi, e⟩ := List.getElem_of_mem hm
      have := (nums i hi).2
      rw [e] at this
      omega
    obtain ⟨h1, h2, h3, h4, h5⟩ := acc l9 hmx early.length (next + 1) (got ++ [mail[j].f2]) early (by omega) (by omega) (by simp; omega) srt (fun m hm => ⟨by have := (ems m hm).1; omega, (ems m hm).2⟩) (Nat.le_refl _)
    generalize acceptL early.length (next + 1) (got ++ [mail[j].f2]) early = R at h1 h2 h3 h4 h5
    have hw3 : wrap64 (R.1 - 1) = R.1 - 1 := by unfold wrap64; omega
    exact ⟨R.1, R.2.1, R.2.2, by rw [hw3], l0, l9, kl, nums, by omega, h2, by omega, h3, h4, h5⟩
theorem ack_drop {tu last : Int} {mail : List S38} (nums : ∀ j (h : j < mail.length), mail[j].f0 = tu ∧ mail[j].f1 = last - mail.length + 1 + j) (r : Nat) (rl : r ≤ mail.length) : ∀ (d a : Nat), a + d = r → ackL (last - mail.length + r) (mail.drop a) = mail.drop r
  | 0, a, h => by
    have : a = r := by omega
    subst this
    refine List.filter_eq_self.2 fun m hm => ?_
    obtain ⟨j, hj, e⟩ := List.getElem_of_mem hm
    rw [List.getElem_drop] at e
    have := (nums (a + j) (by rw [List.length_drop] at hj; omega)).2
    rw [e] at this
    exact decide_eq_true (by omega)
  | d + 1, a, h => by
    have ha : a < mail.length := by omega
    rw [List.drop_eq_getElem_cons ha, ackL_cons, if_neg (by rw [(nums a ha).2]; omega)]
    exact ack_drop nums r rl d (a + 1) (by omega)
theorem ack_R {tu last : Int} {mail : List S38} {next : Int} {got : List S36} {early : List S38} (I : RInv tu last mail next got early) : RInv tu last (ackL (next - 1) mail) next got early := by
  obtain ⟨l0, l9, kl, nums, n1, nl, nk, gl, srt, ems⟩ := I
  have hr : last - (mail.length : Int) + ((next - 1 - (last - mail.length)).toNat : Int) = next - 1 := by omega
  have e := ack_drop nums (next - 1 - (last - mail.length)).toNat (by omega) _ 0 (Nat.zero_add _)
  rw [hr, List.drop_zero] at e
  rw [e]
  have hr' : ((next - 1 - (last - mail.length)).toNat : Int) = next - 1 - (last - mail.length) := by omega
  generalize (next - 1 - (last - mail.length)).toNat = r at hr' 
  have hl : (mail.drop r).length = mail.length - r := List.length_drop
  refine ⟨l0, l9, by omega, fun j hj => ?_, n1, nl, by omega, gl, srt, fun m hm => ⟨(ems m hm).1, ?_⟩⟩
  · rw [List.getElem_drop]
    have := nums (r + j) (by omega)
    exact ⟨this.1, by rw [this.2]; omega⟩
  · obtain ⟨j, hj, e1⟩ := List.getElem_of_mem (ems m hm).2
    have h1 := (ems m hm).1
    have h2 := (nums j hj).2
    rw [e1] at h2
    have : r + (j - r) = j := by omega
    refine List.mem_iff_getElem.2 ⟨j - r, by omega, ?_⟩
    rw [List.getElem_drop]
    simp only [this]
    exact e1
theorem lettersL_get (tu : Int) : ∀ (l : List S36) (n : Int), 0 ≤ n → n + l.length ≤ 100000 → ∀ (j : Nat) (h : j < (lettersL tu n l).length), (lettersL tu n l)[j].f0 = tu ∧ (lettersL tu n l)[j].f1 = n + j + 1
  | [], _, _, _, _, h => absurd h (Nat.not_lt_zero _)
  | x :: l, n, h0, hn, j, h => by
    rw [List.length_cons] at hn
    have hw : wrap64 (n + 1) = n + 1 := by unfold wrap64; omega
    cases j with
    | zero => exact ⟨rfl, by simp only [lettersL, List.getElem_cons_zero]; rw [hw]; simp⟩
    | succ j =>
      have := lettersL_get tu l (n + 1) (by omega) (by omega) j (by rw [lettersL_len] at h ⊢; rw [List.length_cons] at h; omega)
      simp only [lettersL, hw, List.getElem_cons_succ]
      refine ⟨this.1, this.2.trans ?_⟩
      omega
theorem lastL_eq : ∀ (l : List S36) (n : Int), 0 ≤ n → n + l.length ≤ 100000 → lastL n l = n + l.length
  | [], n, _, _ => by simp [lastL]
  | x :: l, n, h0, hn => by
    rw [List.length_cons] at hn ⊢
    have hw : wrap64 (n + 1) = n + 1 := by unfold wrap64; omega
    rw [lastL, hw, lastL_eq l (n + 1) (by omega) (by omega)]
    omega
theorem post_R {tu last : Int} {mail : List S38} {next : Int} {got : List S36} {early : List S38} (I : RInv tu last mail next got early) (l : List S36) (hz : (postR tu last mail l).2.2.2.2 = 0) :
    (postR tu last mail l).1 = tu ∧ RInv tu (postR tu last mail l).2.1 (postR tu last mail l).2.2.1 next got early := by
  obtain ⟨l0, l9, kl, nums, n1, nl, nk, gl, srt, ems⟩ := I
  unfold postR at hz ⊢
  by_cases c1 : 0 < l.length ∧ last > 9999 - (l.length : Int)
  · rw [if_pos c1] at hz; exact absurd hz (by simp)
  rw [if_neg c1] at hz ⊢
  by_cases c2 : 64 < mail.length + l.length
  · rw [if_pos c2] at hz; exact absurd hz (by simp)
  rw [if_neg c2]
  have h9 : last + l.length ≤ 9999 := by omega
  have hN : (mail ++ lettersL tu last l).length = mail.length + l.length := by rw [List.length_append, lettersL_len]
  refine ⟨rfl, ?_⟩
  show RInv tu (lastL last l) (mail ++ lettersL tu last l) next got early
  rw [lastL_eq l last l0 (by omega)]
  refine ⟨by omega, h9, by omega, fun j hj => ?_, n1, by omega, by omega, gl, srt, fun m hm => ⟨(ems m hm).1, List.mem_append_left _ (ems m hm).2⟩⟩
  rw [hN]
  by_cases c : j < mail.length
  · rw [List.getElem_append_left c]
    have := nums j c
    exact ⟨this.1, by rw [this.2]; omega⟩
  · rw [List.getElem_append_right (by omega)]
    have := lettersL_get tu l last l0 (by omega) (j - mail.length) (by rw [lettersL_len]; omega)
    exact ⟨this.1, by rw [this.2]; omega⟩
theorem remain_j1 {tu last next : Int} {mail : List S38} {got : List S36} {early : List S38} (I : RInv tu last mail next got early) (hm : mail.length ≤ 100) (hg : got.length ≤ 100) (he : early.length ≤ 100) (s0 s1 : Int) (l : List S36) :
    Ev (fun k => codesearchlaw49_NotifyRemains.j1 k false tu last mail tu next got early s0 s1 l) true := by
  refine Ev.step (fun k => by rw [codesearchlaw49_NotifyRemains.j1]) ?_
  simp only [Bool.false_eq_true, if_false, pending_f tu last mail (by omega), Option.bind_some]
  by_cases c : (mail.length : Int) = 0
  · simp only [if_pos c]; exact Ev.now _
  simp only [if_neg c]
  obtain ⟨j, hj, ej⟩ := index_f s1 mail.length (by omega) (by omega)
  obtain ⟨n', g', e', er, I'⟩ := recv_R I j hj
  have hrc := recv_f tu next got early mail[j] (by omega)
  have hlen := recvR_len tu next got early mail[j]
  rw [er] at hrc hlen
  simp only at hlen
  simp only [ej, Option.bind_some, if_pos (show (0 : Int) ≤ (j : Int) by omega), if_pos (show (j : Int) < (mail.length : Int) by omega), rd38 _ j hj, hrc]
  refine Ev.bind (right_ev tu last tu n' mail g' e' (by omega) (by omega) (by omega)) ?_
  simp only [right_of I', if_true]
  have hal := ackL_len (n' - 1) mail
  refine Ev.bind (ack_ev tu last (n' - 1) mail (by omega)) (Ev.bind (right_ev tu last tu n' (ackL (n' - 1) mail) g' e' (by omega) (by omega) (by omega)) ?_)
  simp only [right_of (ack_R I')]
  exact Ev.now _
theorem remainP (tu last : Int) (mail : List S38) (u next : Int) (got : List S36) (early : List S38) (s0 s1 : Int) (l : List S36) : ∃ k, codesearchlaw49_NotifyRemains.f k tu last mail u next got early s0 s1 l = some true := by
  refine Ev.rounds (g := fun k => codesearchlaw49_NotifyRemains.f k tu last mail u next got early s0 s1 l) ?_
  unfold codesearchlaw49_NotifyRemains.f
  refine Ev.bind alive_ev ?_
  simp only [if_true]
  have j0 : Ev (fun k => codesearchlaw49_NotifyRemains.j0 k true tu last mail u next got early s0 s1 l) true := by
    refine Ev.step (fun k => by rw [codesearchlaw49_NotifyRemains.j0]) ?_
    simp only [if_true]
    exact Ev.now _
  by_cases c1 : (mail.length : Int) > 100
  · simp only [if_pos c1]; exact j0
  simp only [if_neg c1]
  by_cases c2 : (got.length : Int) > 100
  · simp only [if_pos c2]; exact j0
  simp only [if_neg c2]
  by_cases c3 : (early.length : Int) > 100
  · simp only [if_pos c3]; exact j0
  simp only [if_neg c3]
  by_cases c4 : (l.length : Int) > 100
  · simp only [if_pos c4]; exact j0
  simp only [if_neg c4]
  refine Ev.bind (right_ev tu last u next mail got early (by omega) (by omega) (by omega)) ?_
  cases hR : rightB tu last mail u next got early
  · exact j0
  obtain ⟨rfl, I⟩ := right_get hR
  refine Ev.step (fun k => by rw [codesearchlaw49_NotifyRemains.j0]) ?_
  simp only [Bool.not_true, Bool.false_eq_true, if_false]
  refine Ev.bind (post_ev tu last mail l (by omega) (by omega)) ?_
  have J := remain_j1 I (by omega) (by omega) (by omega) s0 s1 l
  by_cases c5 : (postR tu last mail l).2.2.2.2 = 0
  · simp only [if_pos c5]
    obtain ⟨e, I'⟩ := post_R I l c5
    have hl := (postR_len tu last mail l).1
    have hr := right_of I'
    rw [e]
    refine Ev.bind (right_ev tu _ tu next _ got early (by omega) (by omega) (by omega)) ?_
    simp only [hr, Bool.not_true]
    exact J
  · simp only [if_neg c5]; exact J
theorem NotifyRemains : ∀ (a0 : S24) (a1 : S34) (a2 : S52), ((Lit.int .i64 a0.f0).wf = true ∧ (Lit.int .i64 a0.f1).wf = true ∧ (a0.f2.length * 64 ≤ 140737488351232 ∧ ∀ x0 ∈ a0.f2, ((Lit.int .i64 x0.f0).wf = true ∧ (Lit.int .i64 x0.f1).wf = true ∧ ((Lit.int .i64 x0.f2.f0).wf = true ∧ (Lit.int .i64 x0.f2.f1).wf = true ∧ x0.f2.f2.size ≤ 140737488351232 ∧ x0.f2.f3.size ≤ 140737488351232)))) → ((Lit.int .i64 a1.f0).wf = true ∧ (Lit.int .i64 a1.f1).wf = true ∧ (a1.f2.length * 48 ≤ 140737488351232 ∧ ∀ x0 ∈ a1.f2, ((Lit.int .i64 x0.f0).wf = true ∧ (Lit.int .i64 x0.f1).wf = true ∧ x0.f2.size ≤ 140737488351232 ∧ x0.f3.size ≤ 140737488351232)) ∧ (a1.f3.length * 64 ≤ 140737488351232 ∧ ∀ x0 ∈ a1.f3, ((Lit.int .i64 x0.f0).wf = true ∧ (Lit.int .i64 x0.f1).wf = true ∧ ((Lit.int .i64 x0.f2.f0).wf = true ∧ (Lit.int .i64 x0.f2.f1).wf = true ∧ x0.f2.f2.size ≤ 140737488351232 ∧ x0.f2.f3.size ≤ 140737488351232)))) → ((Lit.int .i64 a2.f0).wf = true ∧ (Lit.int .i64 a2.f1).wf = true ∧ (a2.f2.length * 48 ≤ 140737488351232 ∧ ∀ x0 ∈ a2.f2, ((Lit.int .i64 x0.f0).wf = true ∧ (Lit.int .i64 x0.f1).wf = true ∧ x0.f2.size ≤ 140737488351232 ∧ x0.f3.size ≤ 140737488351232))) → ∃ k, codesearchlaw49_NotifyRemains.f k a0.f0 a0.f1 a0.f2 a1.f0 a1.f1 a1.f2 a1.f3 a2.f0 a2.f1 a2.f2 = some true := fun a0 a1 a2 _ _ _ => remainP a0.f0 a0.f1 a0.f2 a1.f0 a1.f1 a1.f2 a1.f3 a2.f0 a2.f1 a2.f2
end Go.Proofs.Ytcoidmhdkhpalaa.Pure
