/-
  NotifyAgain: a letter that comes twice changes nothing, and the order of two letters does not matter. No condition beside the given statement's own.
-/
import Derived.Test.YtcoidmhdkhpalaaPAllk
import Derived.Test.YtcoidmhdkhpalaaPureRinv
import Derived.Test.YtcoidmhdkhpalaaPureAck
import Derived.Test.YtcoidmhdkhpalaaPureSame
import Derived.Test.YtcoidmhdkhpalaaPAllx33
namespace Go.Proofs.Ytcoidmhdkhpalaa.Pure
open Go.RowKit Go.Proofs.Ytcoidmhdkhpalaa.PAll Go.Proofs.YtcoidmhdkhpalaaW.PrintWords Go.Proofs.YtcoidmhdkhpalaaW.PrintLast
theorem srt_ext : ∀ (e e' : List S38), Srt e → Srt e' → (∀ y, y ∈ e ↔ y ∈ e') → e = e'
  | [], [], _, _, _ => rfl
  | [], y :: s, _, _, h => absurd ((h y).2 List.mem_cons_self) List.not_mem_nil
  | x :: r, [], _, _, h => absurd ((h x).1 List.mem_cons_self) List.not_mem_nil
  | x :: r, y :: s, h1, h2, h => by
    have p1 := List.pairwise_cons.1 h1
    have p2 := List.pairwise_cons.1 h2
    have e : x = y := by
      rcases List.mem_cons.1 ((h x).1 List.mem_cons_self) with e | e
      · exact e
      rcases List.mem_cons.1 ((h y).2 List.mem_cons_self) with e' | e'
      · exact e'.symm
      have := p2.1 x e
      have := p1.1 y e'
      omega
    subst e
    rw [srt_ext r s p1.2 p2.2 fun z => ?_]
    constructor
    · intro hz
      rcases List.mem_cons.1 ((h z).1 (List.mem_cons_of_mem _ hz)) with e | e
      · have := p1.1 z hz; rw [e] at this; omega
      · exact e
    · intro hz
      rcases List.mem_cons.1 ((h z).2 (List.mem_cons_of_mem _ hz)) with e | e
      · have := p2.1 z hz; rw [e] at this; omega
      · exact e
structure StB (D : List S38) (R : Nat → Prop) (t : Nat) (e : List S38) : Prop where
  tl : t ≤ D.length
  pre : ∀ i, i < t → R i
  stop : t < D.length → ¬ R t
  srt : Srt e
  mem : ∀ y, y ∈ e ↔ ∃ (i : Nat) (h : i < D.length), y = D[i] ∧ R i ∧ t < i
theorem StB.one {D : List S38} {R R' : Nat → Prop} {t t' : Nat} {e e' : List S38} (h : StB D R t e) (h' : StB D R' t' e') (hr : ∀ i, R i ↔ R' i) : t = t' ∧ e = e' := by
  have e1 : t = t' := by
    rcases Nat.lt_trichotomy t t' with c | c | c
    · exact absurd ((hr t).2 (h'.pre t c)) (h.stop (Nat.lt_of_lt_of_le c h'.tl))
    · exact c
    · exact absurd ((hr t').1 (h.pre t' c)) (h'.stop (Nat.lt_of_lt_of_le c h.tl))
  subst e1
  refine ⟨rfl, srt_ext e e' h.srt h'.srt fun y => ?_⟩
  rw [h.mem, h'.mem]
  constructor
  · rintro ⟨i, hi, a, b, c⟩; exact ⟨i, hi, a, (hr i).1 b, c⟩
  · rintro ⟨i, hi, a, b, c⟩; exact ⟨i, hi, a, (hr i).2 b, c⟩
def gg (D : List S38) (g0 : List S36) (t : Nat) : List S36 := g0 ++ (D.take t).map (·.f2)
theorem gg_succ (D : List S38) (g0 : List S36) (t : Nat) (h : t < D.length) : gg D g0 t ++ [D[t].f2] = gg D g0 (t + 1) := by
  unfold gg
  rw [List.take_succ_eq_append_getElem h, List.map_append, List.append_assoc]; rfl
abbrev Seqs (D : List S38) (n0 : Int) : Prop := ∀ (i : Nat) (h : i < D.length), D[i].f1 = n0 + i
theorem acc {D : List S38} {n0 : Int} {g0 : List S36} (h1 : 1 ≤ n0) (h9 : n0 + D.length ≤ 100000) (sq : Seqs D n0) (R : Nat → Prop) : ∀ (k t : Nat) (E : List S38), t ≤ D.length → (∀ i, i < t → R i) → Srt E →
    (∀ y, y ∈ E ↔ ∃ (i : Nat) (h : i < D.length), y = D[i] ∧ R i ∧ t ≤ i) → E.length ≤ k →
    ∃ (t' : Nat) (E' : List S38), acceptL k (n0 + t) (gg D g0 t) E = (n0 + t', gg D g0 t', E') ∧ StB D R t' E'
  | 0, t, E, hr, hp, hs, hm, hk => by
    have : E = [] := List.length_eq_zero_iff.1 (by omega)
    subst this
    refine ⟨t, [], rfl, hr, hp, fun h c => absurd ((hm D[t]).2 ⟨t, h, rfl, c, Nat.le_refl _⟩) List.not_mem_nil, hs, fun y => ⟨fun h => absurd h List.not_mem_nil, ?_⟩⟩
    rintro ⟨i, hi, a, b, c⟩
    exact (hm y).2 ⟨i, hi, a, b, by omega⟩
  | k + 1, t, E, hr, hp, hs, hm, hk => by
    by_cases c : E.any (isN (n0 + t)) = true
    · have hq : E.findIdx (isN (n0 + t)) < E.length := List.findIdx_lt_length.2 (List.any_eq_true.1 c)
      have hat : E[E.findIdx (isN (n0 + t))].f1 = n0 + t := of_decide_eq_true (List.findIdx_getElem (w := hq))
      have hx : acceptL (k + 1) (n0 + t) (gg D g0 t) E = acceptL k (wrap64 (n0 + t + 1)) (gg D g0 t ++ [(E.getD (E.findIdx (isN (n0 + t))) z38).f2]) (E.take (E.findIdx (isN (n0 + t))) ++ E.drop (E.findIdx (isN (n0 + t)) + 1)) := by
        rw [acceptL]; exact if_pos c
      rw [hx]
      generalize E.findIdx (isN (n0 + t)) = q at hq hat
      obtain ⟨j, hj, e1, e2, e3⟩ := (hm _).1 (List.getElem_mem hq)
      have e4 := sq j hj
      have e5 : j = t := by rw [e1] at hat; omega
      subst e5
      have hE : E.take q ++ E[q] :: E.drop (q + 1) = E := by rw [← List.drop_eq_getElem_cons hq, List.take_append_drop]
      have hs' : Srt (E.take q ++ E[q] :: E.drop (q + 1)) := by rw [hE]; exact hs
      have hpw := List.pairwise_append.1 hs'
      have hp2 := List.pairwise_cons.1 hpw.2.1
      obtain ⟨t', E', e, h⟩ := acc (g0 := g0) h1 h9 sq R k (j + 1) (E.take q ++ E.drop (q + 1)) hj (fun i hi => by
        by_cases c : i = j
        · subst c; exact e2
        · exact hp i (by omega)) (List.pairwise_append.2 ⟨hpw.1, hp2.2, fun x hx y hy => hpw.2.2 x hx y (List.mem_cons_of_mem _ hy)⟩) (fun y => by
        constructor
        · intro hy
          rcases List.mem_append.1 hy with h | h
          · have h5 := hpw.2.2 y h _ List.mem_cons_self
            obtain ⟨i, hi, a, b, c⟩ := (hm y).1 (List.mem_of_mem_take h)
            have := sq i hi
            rw [hat, a] at h5
            omega
          · have h5 := hp2.1 y h
            obtain ⟨i, hi, a, b, c⟩ := (hm y).1 (List.mem_of_mem_drop h)
            have := sq i hi
            rw [hat, a] at h5
            exact ⟨i, hi, a, b, by omega⟩
        · rintro ⟨i, hi, a, b, c⟩
          have hy := (hm y).2 ⟨i, hi, a, b, by omega⟩
          rw [← hE] at hy
          rcases List.mem_append.1 hy with h | h
          · exact List.mem_append_left _ h
          · rcases List.mem_cons.1 h with h | h
            · have := sq i hi
              rw [← a, h, hat] at this
              omega
            · exact List.mem_append_right _ h) (by rw [cut_len hq]; omega)
      refine ⟨t', E', ?_, h⟩
      have hw : wrap64 (n0 + j + 1) = n0 + ((j + 1 : Nat) : Int) := by unfold wrap64; omega
      have hg : E.getD q z38 = D[j] := by rw [← e1]; simp [hq]
      rw [← e, ← gg_succ D g0 j hj, hw, hg]
    · have hx := acceptL_stop (n := n0 + t) (g := gg D g0 t) (e := E) (Bool.eq_false_iff.2 c) (k + 1)
      have no : ∀ (h : t < D.length), ¬ R t := fun h b => c (List.any_eq_true.2 ⟨D[t], (hm _).2 ⟨t, h, rfl, b, Nat.le_refl _⟩, decide_eq_true (sq t h)⟩)
      refine ⟨t, E, hx, hr, hp, no, hs, fun y => ?_⟩
      rw [hm]
      constructor
      · rintro ⟨i, hi, a, b, c⟩
        refine ⟨i, hi, a, b, ?_⟩
        have : i ≠ t := fun e => by subst e; exact no hi b
        omega
      · rintro ⟨i, hi, a, b, c⟩
        exact ⟨i, hi, a, b, by omega⟩
theorem recv_S {D : List S38} {tu n0 : Int} {g0 : List S36} (h1 : 1 ≤ n0) (h9 : n0 + D.length ≤ 100000) (sq : Seqs D n0) {R : Nat → Prop} {t : Nat} {e : List S38} (h : StB D R t e) (m : S38) (hm0 : m.f0 = tu) (hm : m.f1 < n0 ∨ m ∈ D) :
    ∃ (t' : Nat) (e' : List S38), recvR tu (n0 + t) (gg D g0 t) e m = (tu, n0 + t', gg D g0 t', e', n0 + t' - 1) ∧ StB D (fun i => R i ∨ m.f1 = n0 + i) t' e' := by
  obtain ⟨tl, pre, stop, srt, mem⟩ := h
  have hw : wrap64 (n0 + t - 1) = n0 + t - 1 := by unfold wrap64; omega
  unfold recvR
  by_cases c : m.f1 < n0 + t
  · rw [if_pos (.inr c), hw]
    refine ⟨t, e, rfl, tl, fun i hi => .inl (pre i hi), fun hl hc => hc.elim (stop hl) (fun e => by omega), srt, fun y => ?_⟩
    rw [mem]
    constructor
    · rintro ⟨i, hi, a, b, c⟩; exact ⟨i, hi, a, .inl b, c⟩
    · rintro ⟨i, hi, a, b, c⟩; exact ⟨i, hi, a, b.elim id (fun e => by omega), c⟩
  have hD : m ∈ D := hm.resolve_left (by omega)
  obtain ⟨j, hj, ej⟩ := List.getElem_of_mem hD
  subst ej
  have ej := sq j hj
  rw [if_neg (by rintro (h | h); exact h hm0; exact c h)]
  by_cases c2 : n0 + t < D[j].f1
  · rw [if_pos c2, hw, waitL_eq]
    have stop' : t < D.length → ¬ (R t ∨ D[j].f1 = n0 + t) := fun hl hc => hc.elim (stop hl) (fun e => by omega)
    by_cases c3 : e.any (isN D[j].f1) = true
    · rw [if_pos c3]
      obtain ⟨y, hy, ey⟩ := List.any_eq_true.1 c3
      have ey : y.f1 = D[j].f1 := of_decide_eq_true ey
      obtain ⟨i, hi, a, b, d⟩ := (mem y).1 hy
      have e4 := sq i hi
      have e5 : i = j := by rw [a] at ey; omega
      subst e5
      refine ⟨t, e, rfl, tl, fun i hi => .inl (pre i hi), stop', srt, fun y => ?_⟩
      rw [mem]
      constructor
      · rintro ⟨i, hi, a, b, c⟩; exact ⟨i, hi, a, .inl b, c⟩
      · rintro ⟨i', hi', a', b', c'⟩
        refine ⟨i', hi', a', b'.elim id (fun e => ?_), c'⟩
        have : i' = i := by omega
        subst this; exact b
    · rw [if_neg c3]
      refine ⟨t, _, rfl, tl, fun i hi => .inl (pre i hi), stop', insL_srt _ _ srt fun y hy e => c3 (List.any_eq_true.2 ⟨y, hy, decide_eq_true e⟩), fun y => ?_⟩
      rw [insL_mem, mem]
      constructor
      · rintro (a | ⟨i, hi, a, b, c⟩)
        · exact ⟨j, hj, a, .inr ej, by omega⟩
        · exact ⟨i, hi, a, .inl b, c⟩
      · rintro ⟨i, hi, a, b, c⟩
        rcases b with b | b
        · exact .inr ⟨i, hi, a, b, c⟩
        · have : i = j := by omega
          subst this; exact .inl a
  · rw [if_neg c2]
    have e5 : j = t := by omega
    subst e5
    have hw2 : wrap64 (n0 + j + 1) = n0 + ((j + 1 : Nat) : Int) := by unfold wrap64; omega
    rw [hw2, gg_succ D g0 j hj]
    obtain ⟨t', E', er, hS⟩ := acc (g0 := g0) h1 h9 sq (fun i => R i ∨ D[j].f1 = n0 + i) e.length (j + 1) e hj (fun i hi => by
      by_cases c : i = j
      · subst c; exact .inr ej
      · exact .inl (pre i (by omega))) srt (fun y => by
      rw [mem]
      constructor
      · rintro ⟨i, hi, a, b, c⟩; exact ⟨i, hi, a, .inl b, c⟩
      · rintro ⟨i, hi, a, b, c⟩; exact ⟨i, hi, a, b.elim id (fun e => by omega), c⟩) (Nat.le_refl _)
    rw [er]
    refine ⟨t', E', ?_, hS⟩
    have hl := hS.tl
    have hw3 : wrap64 (n0 + t' - 1) = n0 + t' - 1 := by unfold wrap64; omega
    simp only [hw3]
theorem start_S {tu last : Int} {mail : List S38} {next : Int} {got : List S36} {early : List S38} (I : RInv tu last mail next got early) :
    ∃ D : List S38, next + D.length ≤ 100000 ∧ Seqs D next ∧ (∀ m ∈ mail, m.f0 = tu ∧ (m.f1 < next ∨ m ∈ D)) ∧ StB D (fun i => ∃ h : i < D.length, D[i] ∈ early) 0 early := by
  obtain ⟨l0, l9, kl, nums, n1, nl, nk, gl, srt, ems⟩ := I
  have hr : ((next - (last - mail.length + 1)).toNat : Int) = next - (last - mail.length + 1) := by omega
  generalize (next - (last - mail.length + 1)).toNat = r at hr
  have hl : (mail.drop r).length = mail.length - r := List.length_drop
  have sq : Seqs (mail.drop r) next := fun i hi => by
    rw [List.getElem_drop, (nums (r + i) (by omega)).2]
    omega
  have inD : ∀ m ∈ mail, next ≤ m.f1 → m ∈ mail.drop r := fun m hm h => by
    obtain ⟨j, hj, e⟩ := List.getElem_of_mem hm
    have h2 := (nums j hj).2
    rw [e] at h2
    have : r + (j - r) = j := by omega
    refine List.mem_iff_getElem.2 ⟨j - r, by omega, ?_⟩
    rw [List.getElem_drop]
    simp only [this]
    exact e
  refine ⟨mail.drop r, by omega, sq, fun m hm => ⟨?_, ?_⟩, Nat.zero_le _, fun i hi => absurd hi (Nat.not_lt_zero _), ?_, srt, fun y => ?_⟩
  · obtain ⟨j, hj, e⟩ := List.getElem_of_mem hm
    rw [← e]; exact (nums j hj).1
  · by_cases c : m.f1 < next
    · exact .inl c
    · exact .inr (inD m hm (by omega))
  · rintro h ⟨_, hc⟩
    have h2 := (ems _ hc).1
    have := sq 0 h
    omega
  · constructor
    · intro hy
      have h := ems y hy
      obtain ⟨i, hi, e⟩ := List.getElem_of_mem (inD y h.2 (by omega))
      have h2 := sq i hi
      rw [e] at h2
      exact ⟨i, hi, e.symm, ⟨hi, by rw [e]; exact hy⟩, by omega⟩
    · rintro ⟨i, hi, a, ⟨_, b⟩, c⟩
      rw [a]; exact b
theorem again_R {tu last : Int} {mail : List S38} {next : Int} {got : List S36} {early : List S38} (I : RInv tu last mail next got early) (a b : S38) (ha : a ∈ mail) (hb : b ∈ mail) :
    ∃ (n1 : Int) (g1 : List S36) (e1 : List S38) (n2 : Int) (g2 : List S36) (e2 : List S38) (n3 : Int) (g3 : List S36) (e3 : List S38),
      recvR tu next got early a = (tu, n1, g1, e1, n1 - 1) ∧ recvR tu n1 g1 e1 a = (tu, n1, g1, e1, n1 - 1) ∧ recvR tu n1 g1 e1 b = (tu, n2, g2, e2, n2 - 1) ∧
      recvR tu next got early b = (tu, n3, g3, e3, n3 - 1) ∧ recvR tu n3 g3 e3 a = (tu, n2, g2, e2, n2 - 1) := by
  obtain ⟨D, h9, sq, hD, h0⟩ := start_S I
  have e0 : next = next + ((0 : Nat) : Int) := by omega
  have eg : got = gg D got 0 := by simp [gg]
  obtain ⟨t1, e1, r1, s1⟩ := recv_S (g0 := got) I.n1 h9 sq h0 a (hD a ha).1 (hD a ha).2
  obtain ⟨t1', e1', r1', s1'⟩ := recv_S (g0 := got) I.n1 h9 sq s1 a (hD a ha).1 (hD a ha).2
  obtain ⟨t2, e2, r2, s2⟩ := recv_S (g0 := got) I.n1 h9 sq s1 b (hD b hb).1 (hD b hb).2
  obtain ⟨t3, e3, r3, s3⟩ := recv_S (g0 := got) I.n1 h9 sq h0 b (hD b hb).1 (hD b hb).2
  obtain ⟨t4, e4, r4, s4⟩ := recv_S (g0 := got) I.n1 h9 sq s3 a (hD a ha).1 (hD a ha).2
  obtain ⟨q1, q2⟩ := s1'.one s1 (fun i => ⟨fun h => h.elim id .inr, .inl⟩)
  obtain ⟨q3, q4⟩ := s4.one s2 (fun i => ⟨fun h => h.elim (fun h => h.elim (fun h => .inl (.inl h)) .inr) (fun h => .inl (.inr h)), fun h => h.elim (fun h => h.elim (fun h => .inl (.inl h)) .inr) (fun h => .inl (.inr h))⟩)
  subst q1 q2 q3 q4
  rw [← eg, ← e0] at r1 r3
  exact ⟨_, _, _, _, _, _, _, _, _, r1, r1', r2, r3, r4⟩
theorem againP (tu last : Int) (mail : List S38) (u next : Int) (got : List S36) (early : List S38) (p q : Int) : ∃ k, codesearchlaw49_NotifyAgain.f k tu last mail u next got early p q = some true := by
  refine Ev.rounds (g := fun k => codesearchlaw49_NotifyAgain.f k tu last mail u next got early p q) ?_
  unfold codesearchlaw49_NotifyAgain.f
  refine Ev.bind alive_ev ?_
  simp only [if_true]
  have j0 : Ev (fun k => codesearchlaw49_NotifyAgain.j0 k true tu last mail u next got early p q) true := by
    refine Ev.step (fun k => by rw [codesearchlaw49_NotifyAgain.j0]) ?_
    simp only [if_true]
    exact Ev.now _
  by_cases c1 : (mail.length : Int) > 100
  · simp only [if_pos c1]; exact j0
  simp only [if_neg c1]
  by_cases c2 : (got.length : Int) > 100
  · simp only [if_pos c2]; exact j0
  simp only [if_neg c2]
  by_cases c3 : (early.length : Int) > 100
  · simp only [if_pos c3]; exact j0
  simp only [if_neg c3]
  refine Ev.bind (right_ev tu last u next mail got early (by omega) (by omega) (by omega)) ?_
  cases hR : rightB tu last mail u next got early
  · exact j0
  obtain ⟨rfl, I⟩ := right_get hR
  refine Ev.step (fun k => by rw [codesearchlaw49_NotifyAgain.j0]) ?_
  simp only [Bool.not_true, Bool.false_eq_true, if_false, pending_f tu last mail (by omega), Option.bind_some]
  by_cases c : (mail.length : Int) = 0
  · simp only [if_pos c]; exact Ev.now _
  simp only [if_neg c]
  obtain ⟨i, hi, ei⟩ := index_f p mail.length (by omega) (by omega)
  obtain ⟨j, hj, ej⟩ := index_f q mail.length (by omega) (by omega)
  obtain ⟨n1, g1, e1, n2, g2, e2, n3, g3, e3, r1, r1', r2, r3, r4⟩ := again_R I mail[i] mail[j] (List.getElem_mem hi) (List.getElem_mem hj)
  have l1 := recvR_len tu next got early mail[i]
  have l2 := recvR_len tu n1 g1 e1 mail[j]
  have l3 := recvR_len tu next got early mail[j]
  rw [r1] at l1
  rw [r2] at l2
  rw [r3] at l3
  simp only at l1 l2 l3
  have f1 := recv_f tu next got early mail[i] (by omega)
  have f1' := recv_f tu n1 g1 e1 mail[i] (by omega)
  have f2 := recv_f tu n1 g1 e1 mail[j] (by omega)
  have f3 := recv_f tu next got early mail[j] (by omega)
  have f4 := recv_f tu n3 g3 e3 mail[i] (by omega)
  rw [r1] at f1
  rw [r1'] at f1'
  rw [r2] at f2
  rw [r3] at f3
  rw [r4] at f4
  simp only [ei, ej, Option.bind_some, if_pos (show (0 : Int) ≤ (i : Int) by omega), if_pos (show (i : Int) < (mail.length : Int) by omega), if_pos (show (0 : Int) ≤ (j : Int) by omega), if_pos (show (j : Int) < (mail.length : Int) by omega), rd38 _ i hi, rd38 _ j hj, f1, f1']
  refine Ev.bind (samein_ev _ _ _ _ (by omega) (by omega)) ?_
  simp only [if_true, bne_self_eq_false]
  refine Ev.step (fun k => by rw [codesearchlaw49_NotifyAgain.j1]) ?_
  simp only [Bool.false_eq_true, if_false, f2, f3, f4, Option.bind_some]
  refine Ev.bind (samein_ev _ _ _ _ (by omega) (by omega)) ?_
  simp only [if_true, beq_self_eq_true]
  exact Ev.now _
theorem NotifyAgain : ∀ (a0 : S24) (a1 : S34) (a2 : (Int × Int)), ((Lit.int .i64 a0.f0).wf = true ∧ (Lit.int .i64 a0.f1).wf = true ∧ (a0.f2.length * 64 ≤ 140737488351232 ∧ ∀ x0 ∈ a0.f2, ((Lit.int .i64 x0.f0).wf = true ∧ (Lit.int .i64 x0.f1).wf = true ∧ ((Lit.int .i64 x0.f2.f0).wf = true ∧ (Lit.int .i64 x0.f2.f1).wf = true ∧ x0.f2.f2.size ≤ 140737488351232 ∧ x0.f2.f3.size ≤ 140737488351232)))) → ((Lit.int .i64 a1.f0).wf = true ∧ (Lit.int .i64 a1.f1).wf = true ∧ (a1.f2.length * 48 ≤ 140737488351232 ∧ ∀ x0 ∈ a1.f2, ((Lit.int .i64 x0.f0).wf = true ∧ (Lit.int .i64 x0.f1).wf = true ∧ x0.f2.size ≤ 140737488351232 ∧ x0.f3.size ≤ 140737488351232)) ∧ (a1.f3.length * 64 ≤ 140737488351232 ∧ ∀ x0 ∈ a1.f3, ((Lit.int .i64 x0.f0).wf = true ∧ (Lit.int .i64 x0.f1).wf = true ∧ ((Lit.int .i64 x0.f2.f0).wf = true ∧ (Lit.int .i64 x0.f2.f1).wf = true ∧ x0.f2.f2.size ≤ 140737488351232 ∧ x0.f2.f3.size ≤ 140737488351232)))) → ((Lit.int .i64 a2.1).wf = true ∧ (Lit.int .i64 a2.2).wf = true) → ∃ k, codesearchlaw49_NotifyAgain.f k a0.f0 a0.f1 a0.f2 a1.f0 a1.f1 a1.f2 a1.f3 a2.1 a2.2 = some true := fun a0 a1 a2 _ _ _ => againP a0.f0 a0.f1 a0.f2 a1.f0 a1.f1 a1.f2 a1.f3 a2.1 a2.2
end Go.Proofs.Ytcoidmhdkhpalaa.Pure
