/-
  NotifyOnce: whatever the steps, alerts come once each, in order. No condition beside the given statement's own.
-/
import Derived.Test.YtcoidmhdkhpalaaPAllk
import Derived.Test.YtcoidmhdkhpalaaPureRight
import Derived.Test.YtcoidmhdkhpalaaPureRecv
import Derived.Test.YtcoidmhdkhpalaaPureAck
import Derived.Test.YtcoidmhdkhpalaaPurePost
import Derived.Test.YtcoidmhdkhpalaaPAllx31
namespace Go.Proofs.Ytcoidmhdkhpalaa.Pure
open Go.RowKit Go.Proofs.Ytcoidmhdkhpalaa.PAll Go.Proofs.YtcoidmhdkhpalaaW.PrintWords Go.Proofs.YtcoidmhdkhpalaaW.PrintLast
abbrev Srt (E : List S38) : Prop := E.Pairwise fun x y => x.f1 < y.f1
abbrev Nums (A : List S38) : Prop := ∀ j (h : j < A.length), A[j].f0 = 3 ∧ A[j].f1 = ((j + 1 : Nat) : Int)
structure InvB (A : List S38) (a r : Nat) (E : List S38) : Prop where
  l9 : A.length ≤ 9999
  nums : Nums A
  ar : a ≤ r
  rl : r ≤ A.length
  m64 : A.length - a ≤ 64
  srt : Srt E
  ems : ∀ m ∈ E, ((r + 1 : Nat) : Int) < m.f1 ∧ m ∈ A
def gots (A : List S38) (r : Nat) : List S36 := (A.take r).map (·.f2)
theorem gots_succ (A : List S38) (r : Nat) (h : r < A.length) : gots A r ++ [A[r].f2] = gots A (r + 1) := by
  unfold gots
  rw [List.take_succ_eq_append_getElem h, List.map_append]; rfl
theorem gots_len {A : List S38} {r : Nat} (h : r ≤ A.length) : (gots A r).length = r := by simp [gots]; omega
theorem num_of {A : List S38} (hn : Nums A) {m : S38} (h : m ∈ A) : ∃ (j : Nat) (hj : j < A.length), A[j] = m ∧ m.f0 = 3 ∧ m.f1 = ((j + 1 : Nat) : Int) := by
  obtain ⟨j, hj, e⟩ := List.getElem_of_mem h
  have := hn j hj
  rw [e] at this
  exact ⟨j, hj, e, this⟩
theorem srt_len : ∀ (E : List S38) (lo hi : Int), lo ≤ hi → (∀ m ∈ E, lo < m.f1 ∧ m.f1 ≤ hi) → Srt E → (E.length : Int) ≤ hi - lo
  | [], lo, hi, h, _, _ => by simp; omega
  | m :: E, lo, hi, h, hm, hs => by
    have h1 := hm m List.mem_cons_self
    have h2 := List.pairwise_cons.1 hs
    have := srt_len E m.f1 hi h1.2 (fun y hy => ⟨h2.1 y hy, (hm y (List.mem_cons_of_mem _ hy)).2⟩) h2.2
    rw [List.length_cons]
    omega
theorem InvB.elen {A : List S38} {a r : Nat} {E : List S38} (I : InvB A a r E) : E.length ≤ 9999 := by
  have := srt_len E 0 A.length (by omega) (fun m hm => by
    have h := I.ems m hm
    obtain ⟨j, hj, _, _, e⟩ := num_of I.nums h.2
    omega) I.srt
  have := I.l9
  omega
theorem acc {A : List S38} (nums : Nums A) (l9 : A.length ≤ 9999) : ∀ (k r : Nat) (E : List S38), r ≤ A.length → Srt E → (∀ m ∈ E, ((r + 1 : Nat) : Int) ≤ m.f1 ∧ m ∈ A) → E.length ≤ k →
    ∃ (r' : Nat) (E' : List S38), acceptL k ((r + 1 : Nat) : Int) (gots A r) E = (((r' + 1 : Nat) : Int), gots A r', E') ∧ r ≤ r' ∧ r' ≤ A.length ∧ Srt E' ∧ ∀ m ∈ E', ((r' + 1 : Nat) : Int) < m.f1 ∧ m ∈ A
  | 0, r, E, hr, hs, hm, hk => by
    have : E = [] := List.length_eq_zero_iff.1 (by omega)
    subst this
    exact ⟨r, [], rfl, Nat.le_refl _, hr, hs, fun m h => absurd h List.not_mem_nil⟩
  | k + 1, r, E, hr, hs, hm, hk => by
    by_cases c : E.any (isN ((r + 1 : Nat) : Int)) = true
    · have hq : E.findIdx (isN ((r + 1 : Nat) : Int)) < E.length := List.findIdx_lt_length.2 (List.any_eq_true.1 c)
      have hat : E[E.findIdx (isN ((r + 1 : Nat) : Int))].f1 = ((r + 1 : Nat) : Int) := of_decide_eq_true (List.findIdx_getElem (w := hq))
      have hx : acceptL (k + 1) ((r + 1 : Nat) : Int) (gots A r) E = acceptL k (wrap64 (((r + 1 : Nat) : Int) + 1)) (gots A r ++ [(E.getD (E.findIdx (isN ((r + 1 : Nat) : Int))) z38).f2]) (E.take (E.findIdx (isN ((r + 1 : Nat) : Int))) ++ E.drop (E.findIdx (isN ((r + 1 : Nat) : Int)) + 1)) := by
        rw [acceptL]; exact if_pos c
      rw [hx]
      generalize E.findIdx (isN ((r + 1 : Nat) : Int)) = q at hq hat
      obtain ⟨j, hj, e1⟩ := List.getElem_of_mem (hm _ (List.getElem_mem hq)).2
      have e2 := (nums j hj).2
      have e3 : j = r := by rw [e1, hat] at e2; omega
      subst e3
      have hE : E.take q ++ E[q] :: E.drop (q + 1) = E := by rw [← List.drop_eq_getElem_cons hq, List.take_append_drop]
      have hs' : Srt (E.take q ++ E[q] :: E.drop (q + 1)) := by rw [hE]; exact hs
      have hp := List.pairwise_append.1 hs'
      have hp2 := List.pairwise_cons.1 hp.2.1
      obtain ⟨r', E', e, h1, h2, h3, h4⟩ := acc nums l9 k (j + 1) (E.take q ++ E.drop (q + 1)) hj (List.pairwise_append.2 ⟨hp.1, hp2.2, fun x hx y hy => hp.2.2 x hx y (List.mem_cons_of_mem _ hy)⟩) (fun m hm' => by
        rcases List.mem_append.1 hm' with h | h
        · have h5 := hp.2.2 m h _ List.mem_cons_self
          rw [hat] at h5
          have := (hm m (List.mem_of_mem_take h)).1
          omega
        · have h5 := hp2.1 m h
          rw [hat] at h5
          exact ⟨by omega, (hm m (List.mem_of_mem_drop h)).2⟩) (by rw [cut_len hq]; omega)
      refine ⟨r', E', ?_, by omega, h2, h3, h4⟩
      have hw : wrap64 (((j + 1 : Nat) : Int) + 1) = ((j + 1 + 1 : Nat) : Int) := up (j + 1) (by omega)
      have hg : E.getD q z38 = A[j] := by rw [e1]; simp [hq]
      rw [← e, ← gots_succ A j hj, hw, hg]
    · have hx := acceptL_stop (n := ((r + 1 : Nat) : Int)) (g := gots A r) (e := E) (Bool.eq_false_iff.2 c) (k + 1)
      refine ⟨r, E, hx, Nat.le_refl _, hr, hs, fun m h => ⟨?_, (hm m h).2⟩⟩
      have h1 := (hm m h).1
      have h2 : ¬ m.f1 = ((r + 1 : Nat) : Int) := fun e => c (List.any_eq_true.2 ⟨m, h, decide_eq_true e⟩)
      omega
theorem insL_mem (m : S38) : ∀ (l : List S38) (y : S38), y ∈ insL m l ↔ y = m ∨ y ∈ l
  | [], y => by simp [insL]
  | x :: r, y => by
    rw [insL]
    split
    · simp
    · rw [List.mem_cons, insL_mem m r y, List.mem_cons]
      constructor
      · rintro (h | h | h) <;> simp [h]
      · rintro (h | h | h) <;> simp [h]
theorem insL_srt (m : S38) : ∀ (l : List S38), Srt l → (∀ y ∈ l, y.f1 ≠ m.f1) → Srt (insL m l)
  | [], _, _ => by simp [insL, Srt]
  | x :: r, hs, hn => by
    have h := List.pairwise_cons.1 hs
    rw [insL]
    by_cases c : m.f1 < x.f1
    · rw [if_pos c]
      refine List.pairwise_cons.2 ⟨fun y hy => ?_, hs⟩
      rcases List.mem_cons.1 hy with e | e
      · rw [e]; exact c
      · exact Int.lt_trans c (h.1 y e)
    · rw [if_neg c]
      refine List.pairwise_cons.2 ⟨fun y hy => ?_, insL_srt m r h.2 fun y hy => hn y (List.mem_cons_of_mem _ hy)⟩
      rcases (insL_mem m r y).1 hy with e | e
      · rw [e]
        have := hn x List.mem_cons_self
        omega
      · exact h.1 y e
theorem wr1 (r : Nat) (h : r ≤ 100000) : wrap64 (((r + 1 : Nat) : Int) - 1) = (r : Int) := by unfold wrap64; omega
theorem recv_inv {A : List S38} {a r : Nat} {E : List S38} (I : InvB A a r E) (j : Nat) (hj : j < A.length) :
    ∃ (r' : Nat) (E' : List S38), recvR 3 ((r + 1 : Nat) : Int) (gots A r) E A[j] = (3, ((r' + 1 : Nat) : Int), gots A r', E', (r' : Int)) ∧ InvB A a r' E' ∧ r ≤ r' ∧ (j ≤ r → j < r') := by
  obtain ⟨l9, nums, ar, rl, m64, srt, ems⟩ := I
  have hN := nums j hj
  unfold recvR
  by_cases c : j < r
  · rw [if_pos (.inr (by omega)), wr1 r (by omega)]
    exact ⟨r, E, rfl, ⟨l9, nums, ar, rl, m64, srt, ems⟩, Nat.le_refl _, fun _ => c⟩
  rw [if_neg (by omega)]
  by_cases c2 : r < j
  · rw [if_pos (by omega), wr1 r (by omega), waitL_eq]
    by_cases c3 : E.any (isN A[j].f1) = true
    · rw [if_pos c3]
      exact ⟨r, E, rfl, ⟨l9, nums, ar, rl, m64, srt, ems⟩, Nat.le_refl _, fun _ => by omega⟩
    · rw [if_neg c3]
      refine ⟨r, _, rfl, ⟨l9, nums, ar, rl, m64, insL_srt _ _ srt fun y hy e => c3 (List.any_eq_true.2 ⟨y, hy, decide_eq_true e⟩), fun m hm => ?_⟩, Nat.le_refl _, fun _ => by omega⟩
      rcases (insL_mem _ _ _).1 hm with e | e
      · subst e; exact ⟨by omega, List.getElem_mem hj⟩
      · exact ems m e
  · have e : j = r := by omega
    subst e
    rw [if_neg (by omega)]
    have hw : wrap64 (((j + 1 : Nat) : Int) + 1) = ((j + 1 + 1 : Nat) : Int) := up (j + 1) (by omega)
    rw [hw, gots_succ A j hj]
    obtain ⟨r', E', e, h1, h2, h3, h4⟩ := acc nums l9 E.length (j + 1) E hj srt (fun m hm => ⟨by have := (ems m hm).1; omega, (ems m hm).2⟩) (Nat.le_refl _)
    rw [e]
    refine ⟨r', E', ?_, ⟨l9, nums, by omega, h2, m64, h3, h4⟩, by omega, fun _ => h1⟩
    simp only [wr1 r' (by omega)]
theorem mailB_of {tu b : Int} : ∀ {l : List S38} {i : Nat}, (∀ (j : Nat) (h : j < l.length), l[j].f0 = tu ∧ l[j].f1 = b + i + j) → mailB tu b i l = true
  | [], _, _ => rfl
  | m :: r, i, h => by
    have h0 := h 0 (by simp)
    rw [List.getElem_cons_zero] at h0
    rw [mailB, if_pos h0.1, if_pos (by rw [h0.2]; simp)]
    refine mailB_of fun j hj => ?_
    have := h (j + 1) (by simp; omega)
    rw [List.getElem_cons_succ] at this
    exact ⟨this.1, by rw [this.2]; omega⟩
theorem earlyB_of {mail : List S38} : ∀ {E : List S38} {p : Int}, Srt E → (∀ m ∈ E, p < m.f1 ∧ m ∈ mail) → earlyB mail p E = true
  | [], _, _, _ => rfl
  | m :: r, p, hs, h => by
    have h0 := h m List.mem_cons_self
    have hp := List.pairwise_cons.1 hs
    rw [earlyB, if_neg (by omega), if_pos (List.any_eq_true.2 ⟨m, h0.2, eqL_iff.2 rfl⟩)]
    exact earlyB_of hp.2 fun y hy => ⟨hp.1 y hy, (h y (List.mem_cons_of_mem _ hy)).2⟩
theorem drop_num {A : List S38} (hn : Nums A) (a : Nat) (j : Nat) (h : j < (A.drop a).length) : (A.drop a)[j].f0 = 3 ∧ (A.drop a)[j].f1 = ((a + j + 1 : Nat) : Int) := by
  rw [List.getElem_drop]
  exact hn (a + j) (by rw [List.length_drop] at h; omega)
theorem right_inv {A : List S38} {a r : Nat} {E : List S38} (I : InvB A a r E) : rightB 3 (A.length : Int) (A.drop a) 3 ((r + 1 : Nat) : Int) (gots A r) E = true := by
  have hE := I.elen
  obtain ⟨l9, nums, ar, rl, m64, srt, ems⟩ := I
  unfold rightB
  have hl : (A.drop a).length = A.length - a := List.length_drop
  rw [decide_eq_true ⟨rfl, by omega, by omega, by omega⟩, mailB_of (fun j h => by have := drop_num nums a j h; exact ⟨this.1, by rw [this.2, hl]; rw [hl] at h; omega⟩), earlyB_of srt (fun m hm => ⟨(ems m hm).1, by
    have h := (ems m hm)
    obtain ⟨j, hj, e, _, e1⟩ := num_of nums h.2
    have : a + (j - a) = j := by omega
    refine List.mem_iff_getElem.2 ⟨j - a, by omega, ?_⟩
    rw [List.getElem_drop, ← e]
    simp only [this]⟩)]
  unfold boundB
  rw [decide_eq_true ⟨by omega, by omega, by omega, by rw [gots_len rl]; omega⟩]
  rfl
theorem lettersL_get (tu : Int) : ∀ (l : List S36) (n : Nat), n + l.length ≤ 100000 → ∀ (j : Nat) (h : j < (lettersL tu n l).length), (lettersL tu n l)[j].f0 = tu ∧ (lettersL tu n l)[j].f1 = ((n + j + 1 : Nat) : Int)
  | [], _, _, _, h => absurd h (Nat.not_lt_zero _)
  | x :: l, n, hn, j, h => by
    rw [List.length_cons] at hn
    have hw := up n (by omega)
    cases j with
    | zero => exact ⟨rfl, hw⟩
    | succ j =>
      have := lettersL_get tu l (n + 1) (by omega) j (by rw [lettersL_len] at h ⊢; rw [List.length_cons] at h; omega)
      simp only [lettersL, hw, List.getElem_cons_succ]
      refine ⟨this.1, this.2.trans ?_⟩
      omega
theorem lastL_eq : ∀ (l : List S36) (n : Nat), n + l.length ≤ 100000 → lastL n l = ((n + l.length : Nat) : Int)
  | [], _, _ => rfl
  | x :: l, n, hn => by
    rw [List.length_cons] at hn ⊢
    rw [lastL, up n (by omega), lastL_eq l (n + 1) (by omega)]
    omega
theorem post_inv {A : List S38} {a r : Nat} {E : List S38} (I : InvB A a r E) (l : List S36) (hz : (postR 3 (A.length : Int) (A.drop a) l).2.2.2.2 = 0) :
    postR 3 (A.length : Int) (A.drop a) l = (3, ((A ++ lettersL 3 A.length l).length : Int), (A ++ lettersL 3 A.length l).drop a, lettersL 3 A.length l, 0) ∧ InvB (A ++ lettersL 3 A.length l) a r E ∧ gots (A ++ lettersL 3 A.length l) r = gots A r := by
  obtain ⟨l9, nums, ar, rl, m64, srt, ems⟩ := I
  have hl : (A.drop a).length = A.length - a := List.length_drop
  unfold postR at hz ⊢
  by_cases c1 : 0 < l.length ∧ (A.length : Int) > 9999 - (l.length : Int)
  · rw [if_pos c1] at hz; exact absurd hz (by simp)
  rw [if_neg c1] at hz ⊢
  by_cases c2 : 64 < (A.drop a).length + l.length
  · rw [if_pos c2] at hz; exact absurd hz (by simp)
  rw [if_neg c2]
  have h9 : A.length + l.length ≤ 9999 := by omega
  have hN : (A ++ lettersL 3 A.length l).length = A.length + l.length := by rw [List.length_append, lettersL_len]
  refine ⟨?_, ⟨by omega, fun j hj => ?_, ar, by omega, by omega, srt, fun m hm => ⟨(ems m hm).1, List.mem_append_left _ (ems m hm).2⟩⟩, ?_⟩
  · rw [lastL_eq l A.length (by omega), hN, List.drop_append_of_le_length (by omega)]
  · by_cases c : j < A.length
    · rw [List.getElem_append_left c]; exact nums j c
    · rw [List.getElem_append_right (by omega)]
      have := lettersL_get 3 l A.length (by omega) (j - A.length) (by rw [lettersL_len]; omega)
      exact ⟨this.1, by rw [this.2]; omega⟩
  · unfold gots
    rw [List.take_append_of_le_length rl]
theorem ack_drop {A : List S38} (nums : Nums A) (r : Nat) (rl : r ≤ A.length) : ∀ (d a : Nat), a + d = r → ackL (r : Int) (A.drop a) = A.drop r
  | 0, a, h => by
    have : a = r := by omega
    subst this
    refine List.filter_eq_self.2 fun m hm => ?_
    obtain ⟨j, hj, e⟩ := List.getElem_of_mem hm
    have := (drop_num nums a j hj).2
    rw [e] at this
    exact decide_eq_true (by omega)
  | d + 1, a, h => by
    have ha : a < A.length := by omega
    rw [List.drop_eq_getElem_cons ha, ackL_cons, if_neg (by rw [(nums a ha).2]; omega)]
    exact ack_drop nums r rl d (a + 1) (by omega)
theorem ack_inv {A : List S38} {a r : Nat} {E : List S38} (I : InvB A a r E) : ackL (r : Int) (A.drop a) = A.drop r ∧ InvB A r r E := by
  obtain ⟨l9, nums, ar, rl, m64, srt, ems⟩ := I
  exact ⟨ack_drop nums r rl (r - a) a (by omega), l9, nums, Nat.le_refl _, rl, by omega, srt, ems⟩
theorem index_f (x : Int) (n : Nat) (h : 0 < n) (h2 : n ≤ 100000) : ∃ j : Nat, j < n ∧ codesearchlaw49_index.f x (n : Int) = some (j : Int) := by
  have h3 := Int.tmod_lt_of_pos x (show (0 : Int) < n by omega)
  have h4 := Int.lt_tmod_of_pos x (show (0 : Int) < n by omega)
  unfold codesearchlaw49_index.f
  rw [if_neg (by omega)]
  generalize Int.tmod x n = t at h3 h4
  by_cases c : t < 0
  · rw [if_pos c]
    refine ⟨(t + n).toNat, by omega, ?_⟩
    congr 1
    unfold wrap64; omega
  · rw [if_neg c]
    exact ⟨t.toNat, by omega, by congr 1; omega⟩
theorem first_go {A : List S38} (r : Nat) (rl : r ≤ A.length) (l9 : A.length ≤ 100000) : ∀ (d i : Nat), i + d = r → Ev (fun k => codesearchlaw49_first.l0 k (gots A r) A (i : Int)) true
  | 0, i, h => by
    refine Ev.step (fun k => by rw [codesearchlaw49_first.l0]) ?_
    have h1 : ¬ ((i : Int) < ((gots A r).length : Int)) := by rw [gots_len rl]; omega
    simp only [if_neg h1]
    exact Ev.now _
  | d + 1, i, h => by
    refine Ev.step (fun k => by rw [codesearchlaw49_first.l0]) ?_
    have h1 : (i : Int) < ((gots A r).length : Int) := by rw [gots_len rl]; omega
    have h2 : (0 : Int) ≤ (i : Int) := by omega
    have h3 : (i : Int) < (A.length : Int) := by omega
    have e1 : rd_T36 (gots A r) (i : Int) = A[i].f2 := by
      rw [rd36 _ i (by omega)]
      simp [gots]
    have e2 : rd_T38 A (i : Int) = A[i] := rd38 A i (by omega)
    simp only [if_pos h1, if_pos h2, if_pos h3, e1, e2, beq_self_eq_true, Bool.not_true, Bool.or_self, Bool.false_eq_true, if_false, up i (by omega)]
    exact first_go r rl l9 d (i + 1) (by omega)
theorem first_ev {A : List S38} (r : Nat) (rl : r ≤ A.length) (l9 : A.length ≤ 100000) : Ev (fun k => codesearchlaw49_first.f k (gots A r) A) true := by
  unfold codesearchlaw49_first.f
  rw [gots_len rl]
  simp only [if_neg (show ¬ (r : Int) > (A.length : Int) by omega)]
  exact first_go r rl l9 r 0 (by omega)
theorem final_go {A : List S38} {a : Nat} : ∀ (d i r : Nat) (E : List S38), i + d = (A.drop a).length → a + i ≤ r → InvB A a r E →
    Ev (fun k => codesearchlaw49_NotifyOnce.l1 k A (A.drop a) (i : Int) 3 (A.length : Int) (A.drop a) 3 ((r + 1 : Nat) : Int) (gots A r) E) true
  | 0, i, r, E, h, hr, I => by
    refine Ev.step (fun k => by rw [codesearchlaw49_NotifyOnce.l1]) ?_
    have h1 : ¬ ((i : Int) < ((A.drop a).length : Int)) := by omega
    have hl : (A.drop a).length = A.length - a := List.length_drop
    have h9 := I.l9
    have hra : r = A.length := by have := I.rl; have := I.ar; omega
    simp only [if_neg h1]
    refine Ev.bind (first_ev r I.rl (by omega)) ?_
    have e := (ack_inv I).1
    simp only [if_true, gots_len I.rl, if_pos (show (r : Int) = (A.length : Int) by omega), wr1 r (by omega)]
    refine Ev.bind (ack_ev 3 (A.length : Int) (r : Int) (A.drop a) (by have := I.m64; omega)) ?_
    rw [e, hra]
    simp only [List.drop_length, pending_f 3 _ [] (by simp), Option.bind_some]
    exact Ev.now _
  | d + 1, i, r, E, h, hr, I => by
    refine Ev.step (fun k => by rw [codesearchlaw49_NotifyOnce.l1]) ?_
    have hi : i < (A.drop a).length := by omega
    have h1 : (i : Int) < ((A.drop a).length : Int) := by omega
    have h2 : (0 : Int) ≤ (i : Int) := by omega
    have hl : (A.drop a).length = A.length - a := List.length_drop
    have h9 := I.l9
    have e : (A.drop a)[i] = A[a + i]'(by omega) := List.getElem_drop
    obtain ⟨r', E', er, I', hr', hj⟩ := recv_inv I (a + i) (by omega)
    have hrc := recv_f 3 ((r + 1 : Nat) : Int) (gots A r) E (A[a + i]'(by omega)) (by rw [gots_len I.rl]; have := I.elen; have := I.rl; omega)
    rw [er] at hrc
    simp only [if_pos h1, if_pos h2, rd38 _ i hi, e, hrc, Option.bind_some, up i (by omega)]
    exact final_go d (i + 1) r' E' (by omega) (by have := hj hr; omega) I'
theorem once_j1 (l0 : List S52) (i : Nat) (hi : i ≤ 1000) {A : List S38} {a r : Nat} {E : List S38} (I : InvB A a r E)
    (ih : Ev (fun k => codesearchlaw49_NotifyOnce.l0 k l0 A (r : Int) ((i + 1 : Nat) : Int) 3 (A.length : Int) (A.drop a) 3 ((r + 1 : Nat) : Int) (gots A r) E) true) :
    Ev (fun k => codesearchlaw49_NotifyOnce.j1 k l0 A (r : Int) (i : Int) 3 (A.length : Int) (A.drop a) 3 ((r + 1 : Nat) : Int) (gots A r) E) true := by
  refine Ev.step (fun k => by rw [codesearchlaw49_NotifyOnce.j1]) ?_
  have h9 := I.l9
  refine Ev.bind (right_ev 3 (A.length : Int) 3 ((r + 1 : Nat) : Int) (A.drop a) (gots A r) E (by have := I.m64; rw [List.length_drop]; omega) (by have := I.elen; omega) (by rw [gots_len I.rl]; have := I.rl; omega)) ?_
  simp only [right_inv I, if_true]
  refine Ev.bind (first_ev r I.rl (by omega)) ?_
  simp only [if_true, up i (by omega)]
  exact ih
theorem once_go (l0 : List S52) (h100 : l0.length ≤ 100) : ∀ (d i : Nat) (A : List S38) (a r : Nat) (E : List S38), i + d = l0.length → InvB A a r E →
    Ev (fun k => codesearchlaw49_NotifyOnce.l0 k l0 A (r : Int) (i : Int) 3 (A.length : Int) (A.drop a) 3 ((r + 1 : Nat) : Int) (gots A r) E) true
  | 0, i, A, a, r, E, h, I => by
    refine Ev.step (fun k => by rw [codesearchlaw49_NotifyOnce.l0]) ?_
    have h1 : ¬ ((i : Int) < (l0.length : Int)) := by omega
    have h9 := I.l9
    simp only [if_neg h1, pending_f 3 (A.length : Int) (A.drop a) (by have := I.m64; rw [List.length_drop]; omega), Option.bind_some]
    exact final_go (A.drop a).length 0 r E (by omega) (by have := I.ar; omega) I
  | d + 1, i, A, a, r, E, h, I => by
    refine Ev.step (fun k => by rw [codesearchlaw49_NotifyOnce.l0]) ?_
    have hi : i < l0.length := by omega
    have h1 : (i : Int) < (l0.length : Int) := by omega
    have h2 : (0 : Int) ≤ (i : Int) := by omega
    have h9 := I.l9
    have hl : (A.drop a).length = A.length - a := List.length_drop
    have same := once_j1 l0 i (by omega) I (once_go l0 h100 d (i + 1) A a r E (by omega) I)
    have got : ∀ (j : Nat) (hj : j < A.length), Ev (fun k => (notify_Receive.f 3 ((r + 1 : Nat) : Int) (gots A r) E A[j].f0 A[j].f1 A[j].f2.f0 A[j].f2.f1 A[j].f2.f2 A[j].f2.f3).bind fun bt => codesearchlaw49_NotifyOnce.j1 k l0 A bt.2.2.2.2 (i : Int) 3 (A.length : Int) (A.drop a) bt.1 bt.2.1 bt.2.2.1 bt.2.2.2.1) true := fun j hj => by
      obtain ⟨r', E', er, I', hr', _⟩ := recv_inv I j hj
      have hrc := recv_f 3 ((r + 1 : Nat) : Int) (gots A r) E A[j] (by rw [gots_len I.rl]; have := I.elen; have := I.rl; omega)
      rw [er] at hrc
      simp only [hrc, Option.bind_some]
      exact once_j1 l0 i (by omega) I' (once_go l0 h100 d (i + 1) A a r' E' (by omega) I')
    simp only [if_pos h1, if_pos h2, pending_f 3 (A.length : Int) (A.drop a) (by have := I.m64; rw [List.length_drop]; omega), Option.bind_some]
    generalize rd_T52 l0 (i : Int) = s
    by_cases c1 : s.f0 = 1
    · simp only [if_pos c1]
      by_cases c2 : ((A.drop a).length : Int) > 0
      · simp only [if_pos c2]
        obtain ⟨j, hj, ej⟩ := index_f s.f1 (A.drop a).length (by omega) (by omega)
        have e : (A.drop a)[j] = A[a + j]'(by omega) := List.getElem_drop
        simp only [ej, Option.bind_some, if_pos (show (0 : Int) ≤ (j : Int) by omega), if_pos (show (j : Int) < ((A.drop a).length : Int) by omega), rd38 _ j hj, e]
        exact got (a + j) (by omega)
      · simp only [if_neg c2]; exact same
    simp only [if_neg c1]
    by_cases c2 : s.f0 = 2
    · simp only [if_pos c2]
      by_cases c3 : (A.length : Int) > 0
      · simp only [if_pos c3]
        obtain ⟨j, hj, ej⟩ := index_f s.f1 A.length (by omega) (by omega)
        simp only [ej, Option.bind_some, if_pos (show (0 : Int) ≤ (j : Int) by omega), if_pos (show (j : Int) < (A.length : Int) by omega), rd38 _ j hj]
        exact got j hj
      · simp only [if_neg c3]; exact same
    simp only [if_neg c2]
    by_cases c3 : s.f0 = 3
    · simp only [if_pos c3]
      refine Ev.bind (ack_ev 3 (A.length : Int) (r : Int) (A.drop a) (by have := I.m64; omega)) ?_
      have e := ack_inv I
      simp only [e.1]
      exact once_j1 l0 i (by omega) e.2 (once_go l0 h100 d (i + 1) A r r E (by omega) e.2)
    simp only [if_neg c3]
    by_cases c4 : (s.f2.length : Int) > 100
    · simp only [if_pos c4]; exact Ev.now _
    simp only [if_neg c4]
    refine Ev.bind (post_ev 3 (A.length : Int) (A.drop a) s.f2 (by have := I.m64; omega) (by omega)) ?_
    by_cases c5 : (postR 3 (A.length : Int) (A.drop a) s.f2).2.2.2.2 = 0
    · simp only [if_pos c5]
      obtain ⟨e, I', eg⟩ := post_inv I s.f2 c5
      have h9' := I'.l9
      rw [List.length_append] at h9'
      have hj := once_j1 l0 i (by omega) I' (once_go l0 h100 d (i + 1) _ a r E (by omega) I')
      rw [eg] at hj
      rw [e]
      simp only [if_pos (show A.length + (lettersL 3 (A.length : Int) s.f2).length < 2199023255552 by omega)]
      exact hj
    · simp only [if_neg c5]; exact same
theorem onceP (l0 : List S52) : ∃ k, codesearchlaw49_NotifyOnce.f k l0 = some true := by
  refine Ev.rounds (g := fun k => codesearchlaw49_NotifyOnce.f k l0) ?_
  unfold codesearchlaw49_NotifyOnce.f
  refine Ev.bind alive_ev ?_
  simp only [if_true]
  by_cases c1 : (l0.length : Int) > 100
  · simp only [if_pos c1]; exact Ev.now _
  simp only [if_neg c1, notify_Open.f, Option.bind_some]
  exact once_go l0 (by omega) l0.length 0 [] 0 0 [] (by omega) ⟨by simp, fun j h => absurd h (Nat.not_lt_zero _), Nat.le_refl _, Nat.zero_le _, by simp, List.Pairwise.nil, fun m h => absurd h List.not_mem_nil⟩
theorem NotifyOnce : ∀ (a0 : (List S52)), (a0.length * 40 ≤ 140737488351232 ∧ ∀ x0 ∈ a0, ((Lit.int .i64 x0.f0).wf = true ∧ (Lit.int .i64 x0.f1).wf = true ∧ (x0.f2.length * 48 ≤ 140737488351232 ∧ ∀ x1 ∈ x0.f2, ((Lit.int .i64 x1.f0).wf = true ∧ (Lit.int .i64 x1.f1).wf = true ∧ x1.f2.size ≤ 140737488351232 ∧ x1.f3.size ≤ 140737488351232)))) → ∃ k, codesearchlaw49_NotifyOnce.f k a0 = some true := fun a0 _ => onceP a0
end Go.Proofs.Ytcoidmhdkhpalaa.Pure
