/-
  BlobShares: equal strings share one blob, Put loses nothing, Keep loses only others. No condition beside the given statement's own.
-/
import Derived.Test.YtgeejlfifeinmaaPureBlobFresh
import Derived.Test.YtgeejlfifeinmaaPAllx12
namespace Go.Proofs.Ytgeejlfifeinmaa.Pure
open Go.RowKit Go.Proofs.Ytgeejlfifeinmaa.PAll Go.Proofs.YtgeejlfifeinmaaW.PrintWords Go.Proofs.YtgeejlfifeinmaaW.PrintLast

theorem sh_same_go (a : Int) (l : List S39) (hl : l.length ≤ 1099511627776) : ∀ (d i : Nat), i + d = l.length → Ev (fun k => codesearchref24_Same.l0 k (i : Int) a l a l) true
  | 0, i, h => by
    refine Ev.step (fun k => by rw [codesearchref24_Same.l0]) ?_
    have h1 : ¬ ((i : Int) < (l.length : Int)) := by omega
    simp only [if_neg h1]
    exact Ev.now _
  | d + 1, i, h => by
    refine Ev.step (fun k => by rw [codesearchref24_Same.l0]) ?_
    have h1 : (i : Int) < (l.length : Int) := by omega
    have h2 : (0 : Int) ≤ (i : Int) := by omega
    simp only [if_pos h1, if_pos h2, beq_self_eq_true, Bool.not_true, Bool.or_self, Bool.false_eq_true, if_false, up i (by omega)]
    exact sh_same_go a l hl d (i + 1) (by omega)
theorem sh_same (a : Int) (l : List S39) (hl : l.length ≤ 1099511627776) : Ev (fun k => codesearchref24_Same.f k a l a l) true := by
  unfold codesearchref24_Same.f
  have e : ((l.length : Int) != (l.length : Int)) = false := by simp
  simp only [if_true, e]
  refine Ev.step (fun k => by rw [codesearchref24_Same.j0]) ?_
  simp only [Bool.false_eq_true, if_false]
  exact sh_same_go a l hl l.length 0 (by omega)
/-! ### the number of different texts -/
theorem sh_le : ∀ l : List S39, btCount l ≤ l.length
  | [] => Nat.le_refl _
  | b :: r => by
    have := sh_le r
    rw [btCount]
    split <;> simp <;> omega
theorem sh_eq : ∀ l : List S39, btCount l = l.length ↔ l.Pairwise (fun a b => a.f1 ≠ b.f1)
  | [] => by simp [btCount]
  | b :: r => by
    have hle := sh_le r
    have ih := sh_eq r
    rw [btCount, List.pairwise_cons]
    by_cases h : btHas r b.f1 = true
    · rw [if_pos h]
      constructor
      · intro e; simp at e; omega
      · intro e
        unfold btHas at h
        obtain ⟨x, hx, hh⟩ := List.any_eq_true.1 h
        exact absurd (of_decide_eq_true hh).symm (e.1 x hx)
    · rw [if_neg h]
      constructor
      · intro e
        refine ⟨fun x hx hh => h ?_, ih.1 (by simp at e; omega)⟩
        unfold btHas
        exact List.any_eq_true.2 ⟨x, hx, decide_eq_true hh.symm⟩
      · intro e
        have := ih.2 e.2
        simp; omega
/-! ### a right store -/
structure Ok (n : Int) (l : List S39) : Prop where
  lo : 1 ≤ n
  hi : n ≤ 10000
  len : l.length ≤ 128
  ids : ∀ b ∈ l, 0 < b.f0 ∧ b.f0 < n
  pw : l.Pairwise (fun a b => a.f0 < b.f0)
  val : ∀ b ∈ l, validS b.f1 = true
  one : l.Pairwise (fun a b => a.f1 ≠ b.f1)
theorem ids_mk {next : Int} : ∀ {last : Int} {l : List S39}, (∀ b ∈ l, last < b.f0 ∧ b.f0 < next) → l.Pairwise (fun a b => a.f0 < b.f0) → rtIds next last l = true
  | _, [], _, _ => rfl
  | last, b :: r, h, p => by
    obtain ⟨p1, p2⟩ := List.pairwise_cons.1 p
    obtain ⟨h1, h2⟩ := h b List.mem_cons_self
    rw [rtIds, if_neg (by omega), if_neg (by omega)]
    exact ids_mk (fun x hx => ⟨p1 x hx, (h x (List.mem_cons_of_mem _ hx)).2⟩) p2
theorem ok_of {n : Int} {l : List S39} (h : rightS n l = 0) : Ok n l := by
  obtain ⟨h1, h2, h3⟩ := right_zeroS h
  obtain ⟨i1, i2⟩ := ids_of (right_ids h)
  have c1 : ¬ n < 1 := by omega
  have c2 : ¬ n > 10000 := by omega
  have c4 : ¬ l.length > 128 := by omega
  have hi := right_ids h
  have hv : (l.all fun b => validS b.f1) = true := by
    cases c : l.all fun b => validS b.f1
    · unfold rightS at h
      rw [if_neg c1, if_neg c2, if_pos hi, if_neg c4, if_neg (by rw [c]; simp)] at h
      omega
    · rfl
  refine ⟨h1, h2, h3, i1, i2, fun b hb => List.all_eq_true.1 hv b hb, (sh_eq l).1 ?_⟩
  unfold rightS at h
  rw [if_neg c1, if_neg c2, if_pos hi, if_neg c4, if_pos hv] at h
  have := sh_le l
  by_cases c : btCount l < l.length
  · rw [if_pos c] at h; omega
  · omega
theorem ok_to {n : Int} {l : List S39} (h : Ok n l) : rightS n l = 0 := by
  have c1 : ¬ n < 1 := by have := h.lo; omega
  have c2 : ¬ n > 10000 := by have := h.hi; omega
  have c4 : ¬ l.length > 128 := by have := h.len; omega
  have c5 : ¬ btCount l < l.length := by rw [(sh_eq l).2 h.one]; omega
  have hv : (l.all fun b => validS b.f1) = true := List.all_eq_true.2 h.val
  unfold rightS
  rw [if_neg c1, if_neg c2, if_pos (ids_mk h.ids h.pw), if_neg c4, if_pos hv, if_neg c5]
theorem ok_keep {n : Int} {l : List S39} (h : Ok n l) (ids : List Int) : Ok n (keepS ids l) := by
  have hs : (keepS ids l).Sublist l := List.filter_sublist
  exact ⟨h.lo, h.hi, Nat.le_trans hs.length_le h.len, fun b hb => h.ids b (hs.subset hb), h.pw.sublist hs, fun b hb => h.val b (hs.subset hb), h.one.sublist hs⟩
theorem ok_put {n : Int} {l : List S39} {t : ByteArray} (h : Ok n l) (hv : validS t = true) (hb : btHas l t ≠ true) (hl : l.length < 128) (hn : n ≤ 9999) : Ok (n + 1) (l ++ [⟨n, t⟩]) := by
  have hne : ∀ b ∈ l, b.f1 ≠ t := fun b hb' e => hb (by unfold btHas; exact List.any_eq_true.2 ⟨b, hb', decide_eq_true e⟩)
  refine ⟨by have := h.lo; omega, by omega, by simp; omega, fun b hb => ?_, ?_, fun b hb => ?_, ?_⟩
  · rcases List.mem_append.1 hb with hb | hb
    · have := h.ids b hb; omega
    · obtain rfl := List.mem_singleton.1 hb
      have := h.lo
      exact ⟨by show 0 < n; omega, by show n < n + 1; omega⟩
  · refine List.pairwise_append.2 ⟨h.pw, List.pairwise_singleton _ _, fun a ha b hb => ?_⟩
    obtain rfl := List.mem_singleton.1 hb
    exact (h.ids a ha).2
  · rcases List.mem_append.1 hb with hb | hb
    · exact h.val b hb
    · obtain rfl := List.mem_singleton.1 hb
      exact hv
  · refine List.pairwise_append.2 ⟨h.one, List.pairwise_singleton _ _, fun a ha b hb => ?_⟩
    obtain rfl := List.mem_singleton.1 hb
    exact hne a ha
theorem btHas_mem {l : List S39} {b : S39} (h : b ∈ l) : btHas l b.f1 = true := by
  unfold btHas
  exact List.any_eq_true.2 ⟨b, h, decide_eq_true rfl⟩
theorem btId_of {n : Int} : ∀ {l : List S39} {b : S39}, l.Pairwise (fun a b => a.f1 ≠ b.f1) → b ∈ l → btId l b.f1 = b.f0
  | [], _, _, h => by cases h
  | x :: r, b, hp, h => by
    obtain ⟨p1, p2⟩ := List.pairwise_cons.1 hp
    rw [btId]
    rcases List.mem_cons.1 h with rfl | h
    · rw [if_pos rfl]
    · rw [if_neg (p1 b h)]
      exact btId_of (n := n) p2 h
theorem putS_same {n : Int} {l : List S39} {b : S39} (h : Ok n l) (hb : b ∈ l) : putS n l b.f1 = (n, l, b.f0, 0) := by
  unfold putS
  rw [if_pos (ok_to h), if_pos (h.val b hb), if_pos (btHas_mem hb), btId_of (n := n) h.one hb]
theorem getS_keep {ids : List Int} {x : Int} (hx : x ∈ ids) : ∀ l : List S39, getS (keepS ids l) x = getS l x
  | [] => rfl
  | b :: r => by
    by_cases c : b.f0 ∈ ids
    · have e : keepS ids (b :: r) = b :: keepS ids r := by unfold keepS; rw [List.filter_cons, if_pos (decide_eq_true c)]
      rw [e, getS, getS, getS_keep hx r]
    · have e : keepS ids (b :: r) = keepS ids r := by unfold keepS; rw [List.filter_cons, if_neg (by simpa using c)]
      rw [e, getS_keep hx r, getS, if_neg (fun e : b.f0 = x => c (e ▸ hx))]
/-! ### Size -/
def sumS (l : List S39) : Nat := (l.map fun b => b.f1.size).sum
theorem sum_fits {l : List S39} (h : ∀ b ∈ l, b.f1.size ≤ 140737488351232) : sumS l ≤ l.length * 140737488351232 := by
  unfold sumS
  induction l with
  | nil => simp
  | cons b r ih =>
    have h1 := h b List.mem_cons_self
    have h2 := ih (fun x hx => h x (List.mem_cons_of_mem _ hx))
    rw [List.map_cons, List.sum_cons, List.length_cons]
    omega
theorem size_go (l : List S39) (hl : l.length ≤ 300) (h : ∀ b ∈ l, b.f1.size ≤ 140737488351232) : ∀ (d i acc : Nat), i + d = l.length → acc ≤ i * 140737488351232 → Ev (fun k => blob_Size.l0 k (acc : Int) l (l.length : Int) (i : Int)) ((acc + sumS (l.drop i) : Nat) : Int)
  | 0, i, acc, hd, ha => by
    refine Ev.step (fun k => by rw [blob_Size.l0]) ?_
    have h1 : ¬ ((i : Int) < (l.length : Int)) := by omega
    rw [List.drop_of_length_le (by omega)]
    simp only [if_neg h1]
    exact Ev.now _
  | d + 1, i, acc, hd, ha => by
    refine Ev.step (fun k => by rw [blob_Size.l0]) ?_
    have hi : i < l.length := by omega
    have h1 : (i : Int) < (l.length : Int) := by omega
    have h2 : (0 : Int) ≤ (i : Int) := by omega
    have hb := h _ (List.getElem_mem hi)
    have e : wrap64 ((acc : Int) + (l[i].f1.size : Int)) = ((acc + l[i].f1.size : Nat) : Int) := by
      rw [wr _ (by omega) (by omega)]; omega
    have ih := size_go l hl h d (i + 1) (acc + l[i].f1.size) (by omega) (by omega)
    simp only [if_pos h1, if_pos h2, rd_at l i hi, up i (by omega), e]
    have e2 : sumS (l.drop i) = l[i].f1.size + sumS (l.drop (i + 1)) := by
      unfold sumS
      rw [List.drop_eq_getElem_cons hi, List.map_cons, List.sum_cons]
    rw [e2, ← Nat.add_assoc]
    exact ih
theorem size_ev (n : Int) (l : List S39) (hl : l.length ≤ 300) (h : ∀ b ∈ l, b.f1.size ≤ 140737488351232) : Ev (fun k => blob_Size.f k n l) (sumS l : Int) := by
  unfold blob_Size.f
  have := size_go l hl h l.length 0 0 (by omega) (by omega)
  rw [List.drop_zero, Nat.zero_add] at this
  exact this
theorem has_go (l : List Int) (x : Int) (hl : l.length ≤ 1099511627776) : ∀ (d i : Nat), i + d = l.length → Ev (fun k => codesearchlaw24_has.l0 k l x (i : Int)) (decide (x ∈ l.drop i))
  | 0, i, h => by
    refine Ev.step (fun k => by rw [codesearchlaw24_has.l0]) ?_
    have h1 : ¬ ((i : Int) < (l.length : Int)) := by omega
    rw [List.drop_of_length_le (by omega)]
    simp only [if_neg h1]
    exact Ev.now _
  | d + 1, i, h => by
    refine Ev.step (fun k => by rw [codesearchlaw24_has.l0]) ?_
    have hi : i < l.length := by omega
    have h1 : (i : Int) < (l.length : Int) := by omega
    have h2 : (0 : Int) ≤ (i : Int) := by omega
    have hr : rd l (i : Int) = l[i] := by unfold rd; rw [Int.toNat_natCast, List.getD_eq_getElem?_getD, List.getElem?_eq_getElem hi]; rfl
    have ih := has_go l x hl d (i + 1) (by omega)
    rw [List.drop_eq_getElem_cons hi]
    simp only [if_pos h1, if_pos h2, hr, up i (by omega)]
    by_cases c : l[i] = x
    · rw [decide_eq_true (show x ∈ l[i] :: l.drop (i + 1) by rw [c]; exact List.mem_cons_self)]
      simp only [if_pos c]
      exact Ev.now _
    · have e : decide (x ∈ l[i] :: l.drop (i + 1)) = decide (x ∈ l.drop (i + 1)) := by
        refine decide_eq_decide.2 ⟨fun h => ?_, fun h => List.mem_cons_of_mem _ h⟩
        rcases List.mem_cons.1 h with h | h
        · exact absurd h.symm c
        · exact h
      rw [e]
      simp only [if_neg c]
      exact ih
theorem has_ev (l : List Int) (x : Int) (hl : l.length ≤ 1099511627776) : Ev (fun k => codesearchlaw24_has.f k l x) (decide (x ∈ l)) := by
  unfold codesearchlaw24_has.f
  have h := has_go l x hl l.length 0 (by omega)
  rw [List.drop_zero] at h
  exact h
/-! ### the parts of the statement -/
theorem l1_go (ids : List Int) (hi : ids.length ≤ 200) (n : Int) (l : List S39) (hl : l.length ≤ 200) (hb : bFitsB l = true) : ∀ (d i : Nat), i + d = l.length → Ev (fun k => codesearchlaw24_BlobShares.l1 k ids (i : Int) n l n (keepS ids l)) true
  | 0, i, h => by
    refine Ev.step (fun k => by rw [codesearchlaw24_BlobShares.l1]) ?_
    have h1 : ¬ ((i : Int) < (l.length : Int)) := by omega
    simp only [if_neg h1]
    have hbk : bFitsB (keepS ids l) = true := by
      unfold bFitsB at hb ⊢
      rw [Bool.and_eq_true, decide_eq_true_eq, List.all_eq_true] at hb ⊢
      have := List.length_filter_le (fun b : S39 => decide (b.f0 ∈ ids)) l
      exact ⟨by unfold keepS; omega, fun b hb' => hb.2 b (List.mem_filter.1 hb').1⟩
    refine Ev.bind (right_ev n l hb) ?_
    by_cases c : rightS n l = 0
    · simp only [if_pos c]
      refine Ev.bind (right_ev n _ hbk) ?_
      have c2 := ok_to (ok_keep (ok_of c) ids)
      simp only [if_pos c2, beq_self_eq_true]
      exact Ev.now _
    · simp only [if_neg c]
      exact Ev.now _
  | d + 1, i, h => by
    refine Ev.step (fun k => by rw [codesearchlaw24_BlobShares.l1]) ?_
    have hi' : i < l.length := by omega
    have h1 : (i : Int) < (l.length : Int) := by omega
    have h2 : (0 : Int) ≤ (i : Int) := by omega
    have ih := l1_go ids hi n l hl hb d (i + 1) (by omega)
    have hk : (keepS ids l).length ≤ l.length := List.length_filter_le _ _
    simp only [if_pos h1, if_pos h2, rd_at l i hi', up i (by omega)]
    refine Ev.bind (get_ev n _ l (by omega)) ?_
    refine Ev.bind (get_ev n _ (keepS ids l) (by omega)) ?_
    refine Ev.bind (has_ev ids _ (by omega)) ?_
    by_cases c : l[i].f0 ∈ ids
    · rw [getS_keep c l]
      have e : ((getS l l[i].f0).2 != (getS l l[i].f0).2) = false := by simp
      simp only [decide_eq_true c, if_true, e, Bool.false_eq_true, if_false]
      refine Ev.bind (has_ev ids _ (by omega)) ?_
      simp only [decide_eq_true c, if_true]
      exact ih
    · have e : getS (keepS ids l) l[i].f0 = ((⟨#[]⟩ : ByteArray), false) := by
        refine getS_none (fun b hb => ?_)
        have := of_decide_eq_true (List.mem_filter.1 hb).2
        exact fun e : b.f0 = l[i].f0 => c (e ▸ this)
      rw [e]
      simp only [decide_eq_false c, Bool.false_eq_true, if_false]
      refine Ev.bind (has_ev ids _ (by omega)) ?_
      simp only [decide_eq_false c, Bool.false_eq_true, if_false]
      exact ih
theorem j4_ev (ids : List Int) (hi : ids.length ≤ 200) (n : Int) (l : List S39) (hl : l.length ≤ 200) (hb : bFitsB l = true) : Ev (fun k => codesearchlaw24_BlobShares.j4 k ids n l) true := by
  refine Ev.step (fun k => by rw [codesearchlaw24_BlobShares.j4]) ?_
  refine Ev.bind (keep_ev ids (by omega) n l (by omega)) ?_
  exact l1_go ids hi n l hl hb l.length 0 (by omega)
theorem l0_go (t : ByteArray) (ids : List Int) (hi : ids.length ≤ 200) (n : Int) (l : List S39) (hl : l.length ≤ 200) (hb : bFitsB l = true) (id m : Int) (q : List S39) (hq : Ok m q) (hsub : ∀ b ∈ l, b ∈ q)
    (H : Ev (fun k => if id = n then codesearchlaw24_BlobShares.j3 k ids (t.size : Int) n l m q else codesearchlaw24_BlobShares.j3 k ids 0 n l m q) true) : ∀ (d i : Nat), i + d = l.length → Ev (fun k => codesearchlaw24_BlobShares.l0 k t ids id (i : Int) n l m q) true
  | 0, i, h => by
    refine Ev.step (fun k => by rw [codesearchlaw24_BlobShares.l0]) ?_
    have h1 : ¬ ((i : Int) < (l.length : Int)) := by omega
    simp only [if_neg h1]
    exact H
  | d + 1, i, h => by
    refine Ev.step (fun k => by rw [codesearchlaw24_BlobShares.l0]) ?_
    have hi' : i < l.length := by omega
    have h1 : (i : Int) < (l.length : Int) := by omega
    have h2 : (0 : Int) ≤ (i : Int) := by omega
    have ih := l0_go t ids hi n l hl hb id m q hq hsub H d (i + 1) (by omega)
    have hk := hq.len
    simp only [if_pos h1, if_pos h2, rd_at l i hi', up i (by omega)]
    refine Ev.bind (get_ev m _ q (by omega)) ?_
    rw [getS_mem hq.pw (hsub _ (List.getElem_mem hi'))]
    simp only [if_true]
    exact ih
theorem BlobShares : ∀ (a0 : S24) (a1 : ByteArray) (a2 : (List Int)), ((Lit.int .i64 a0.f0).wf = true ∧ (a0.f1.length * 24 ≤ 140737488351232 ∧ ∀ x0 ∈ a0.f1, ((Lit.int .i64 x0.f0).wf = true ∧ x0.f1.size ≤ 140737488351232))) → a1.size ≤ 140737488351232 → (a2.length * 8 ≤ 140737488351232 ∧ ∀ x0 ∈ a2, (Lit.int .i64 x0).wf = true) → ∃ k, codesearchlaw24_BlobShares.f k a0.f0 a0.f1 a1 a2 = some true := by
  intro ⟨n, l⟩ t ids ⟨_, h1, h2⟩ ht _
  refine Ev.rounds (g := fun k => codesearchlaw24_BlobShares.f k n l t ids) ?_
  unfold codesearchlaw24_BlobShares.f
  refine Ev.bind alive_ev ?_
  simp only [if_true]
  have j0 : Ev (fun k => codesearchlaw24_BlobShares.j0 k t ids true n l) true := by
    refine Ev.step (fun k => by rw [codesearchlaw24_BlobShares.j0]) ?_
    simp only [if_true]
    exact Ev.now _
  by_cases c1 : (l.length : Int) > 200
  · simp only [if_pos c1]; exact j0
  by_cases c2 : (ids.length : Int) > 200
  · simp only [if_neg c1, decide_eq_true c2]; exact j0
  simp only [if_neg c1, decide_eq_false c2]
  have hb := fits_of h1 h2
  have hl : l.length ≤ 200 := by omega
  have hi : ids.length ≤ 200 := by omega
  have htm : t.size ≤ maxLen := by simp only [maxLen]; omega
  refine Ev.step (fun k => by rw [codesearchlaw24_BlobShares.j0]) ?_
  simp only [Bool.false_eq_true, if_false]
  refine Ev.bind (put_ev n l t hb htm) ?_
  by_cases c4 : (putS n l t).2.2.2 = 0
  · simp only [if_pos c4]
    -- the new store: right, with a blob of the text, and all that was there
    have key : ∃ (m : Int) (q : List S39) (b : S39), putS n l t = (m, q, b.f0, 0) ∧ Ok m q ∧ b ∈ q ∧ b.f1 = t ∧ (∀ x ∈ l, x ∈ q) ∧ q.length ≤ 200 ∧ bFitsB q = true ∧ (∀ x ∈ q, x.f1.size ≤ 140737488351232) ∧
        ((b.f0 = n → sumS q = sumS l + t.size) ∧ (b.f0 ≠ n → sumS q = sumS l)) := by
      have c5 : rightS n l = 0 := by
        by_cases c5 : rightS n l = 0
        · exact c5
        · exfalso; unfold putS at c4; rw [if_neg c5] at c4; exact c5 c4
      have ok := ok_of c5
      have c6 : validS t = true := by
        by_cases c6 : validS t = true
        · exact c6
        · exfalso; unfold putS at c4; rw [if_pos c5, if_neg c6] at c4; simp at c4
      by_cases c7 : btHas l t = true
      · obtain ⟨b, hb1, hb2, hb3⟩ := btId_mem c7
        refine ⟨n, l, b, ?_, ok, hb1, hb2, fun x hx => hx, hl, hb, fun x hx => (h2 x hx).2, ?_, fun _ => rfl⟩
        · rw [← hb2]; exact putS_same ok hb1
        · intro e; have := (ok.ids b hb1).2; omega
      · have e : putS n l t = if 128 ≤ l.length then (0, [], 0, 9) else if 9999 < n then (0, [], 0, 9) else (n + 1, l ++ [⟨n, t⟩], n, 0) := by
          unfold putS; rw [if_pos c5, if_pos c6, if_neg c7]
        rw [e] at c4
        by_cases c8 : 128 ≤ l.length
        · rw [if_pos c8] at c4; simp at c4
        rw [if_neg c8] at c4
        by_cases c9 : 9999 < n
        · rw [if_pos c9] at c4; simp at c4
        rw [if_neg c8, if_neg c9] at e
        have ok2 := ok_put ok c6 c7 (by omega) (by omega)
        have hf : ∀ x0 ∈ l ++ [(⟨n, t⟩ : S39)], ((Lit.int .i64 x0.f0).wf = true ∧ x0.f1.size ≤ 140737488351232) := by
          intro x hx
          rcases List.mem_append.1 hx with hx | hx
          · exact h2 x hx
          · obtain rfl := List.mem_singleton.1 hx
            exact ⟨by assumption, ht⟩
        refine ⟨n + 1, l ++ [⟨n, t⟩], ⟨n, t⟩, e, ok2, List.mem_append_right _ (List.mem_singleton.2 rfl), rfl, fun x hx => List.mem_append_left _ hx, by simp; omega, fits_of (by simp; omega) hf, fun x hx => (hf x hx).2, fun _ => ?_, fun e => absurd rfl e⟩
        unfold sumS
        rw [List.map_append, List.sum_append]
        simp
    obtain ⟨m, q, b, ep, ok, hbq, hbt, hsub, hql, hbf, hqs, hs1, hs2⟩ := key
    rw [ep]
    simp only []
    refine Ev.bind (get_ev m _ q (by omega)) ?_
    refine Ev.bind (put_ev m q t hbf htm) ?_
    have e2 : putS m q t = (m, q, b.f0, 0) := by rw [← hbt]; exact putS_same ok hbq
    rw [e2, getS_mem ok.pw hbq, hbt]
    simp only [if_true]
    refine Ev.bind (sh_same m q (by omega)) ?_
    simp only [if_true]
    refine Ev.bind (right_ev m q hbf) ?_
    have e3 : (rightS m q != 0) = false := by rw [ok_to ok]; rfl
    simp only [e3]
    refine Ev.step (fun k => by rw [codesearchlaw24_BlobShares.j1]) ?_
    simp only [Bool.false_eq_true, if_false]
    refine l0_go t ids hi n l hl hb b.f0 m q ok hsub ?_ l.length 0 (by omega)
    have f1 := sum_fits (fun b hb => (h2 b hb).2 : ∀ b ∈ l, b.f1.size ≤ 140737488351232)
    by_cases c5 : b.f0 = n
    · simp only [if_pos c5]
      refine Ev.step (fun k => by rw [codesearchlaw24_BlobShares.j3]) ?_
      refine Ev.bind (size_ev m q (by omega) hqs) ?_
      refine Ev.bind (size_ev n l (by omega) (fun b hb => (h2 b hb).2)) ?_
      have e : (sumS q : Int) = wrap64 ((sumS l : Int) + (t.size : Int)) := by rw [hs1 c5, wr _ (by omega) (by omega)]; omega
      simp only [if_pos e]
      exact j4_ev ids hi n l hl hb
    · simp only [if_neg c5]
      refine Ev.step (fun k => by rw [codesearchlaw24_BlobShares.j3]) ?_
      refine Ev.bind (size_ev m q (by omega) hqs) ?_
      refine Ev.bind (size_ev n l (by omega) (fun b hb => (h2 b hb).2)) ?_
      have e : (sumS q : Int) = wrap64 ((sumS l : Int) + 0) := by rw [hs2 c5, wr _ (by omega) (by omega)]; omega
      simp only [if_pos e]
      exact j4_ev ids hi n l hl hb
  · simp only [if_neg c4]
    exact j4_ev ids hi n l hl hb

end Go.Proofs.Ytgeejlfifeinmaa.Pure
