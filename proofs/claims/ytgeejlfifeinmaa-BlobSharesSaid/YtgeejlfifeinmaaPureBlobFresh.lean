/-
  BlobFresh: a text that was lost does not get an ID that another text had. No condition beside the given statement's own.
-/
import Derived.Test.YtgeejlfifeinmaaPureLib
import Derived.Test.YtgeejlfifeinmaaPAllx11
namespace Go.Proofs.Ytgeejlfifeinmaa.Pure
open Go.RowKit Go.Proofs.Ytgeejlfifeinmaa.PAll Go.Proofs.YtgeejlfifeinmaaW.PrintWords Go.Proofs.YtgeejlfifeinmaaW.PrintLast

def putS (a0 : Int) (l : List S39) (t : ByteArray) : Int × (List S39) × Int × Int :=
  if rightS a0 l = 0 then
    if validS t = true then
      if btHas l t = true then (a0, l, btId l t, 0) else if 128 ≤ l.length then (0, [], 0, 9) else if 9999 < a0 then (0, [], 0, 9) else (a0 + 1, l ++ [⟨a0, t⟩], a0, 0)
    else (0, [], 0, 3)
  else (0, [], 0, rightS a0 l)
theorem put_ev (a0 : Int) (l : List S39) (t : ByteArray) (h : bFitsB l = true) (ht : t.size ≤ maxLen) : Ev (fun k => blob_Put.f k a0 l t) (putS a0 l t) := by
  unfold blob_Put.f putS
  simp only [if_pos ht]
  refine Ev.bind (right_ev a0 l h) ?_
  by_cases c1 : rightS a0 l = 0
  · simp only [if_pos c1]
    refine Ev.bind (valid_ev t) ?_
    by_cases c2 : validS t = true
    · by_cases c3 : btHas l t = true
      · simp only [if_pos c2, if_pos c3]; exact Ev.now _
      · by_cases c4 : 128 ≤ l.length
        · simp only [if_pos c2, if_neg c3, if_pos c4]; exact Ev.now _
        · by_cases c5 : 9999 < a0
          · simp only [if_pos c2, if_neg c3, if_neg c4, if_pos c5]; exact Ev.now _
          · simp only [if_pos c2, if_neg c3, if_neg c4, if_neg c5]; exact Ev.now _
    · simp only [if_neg c2]; exact Ev.now _
  · simp only [if_neg c1]; exact Ev.now _
theorem right_zeroS {a0 : Int} {l : List S39} (h : rightS a0 l = 0) : 1 ≤ a0 ∧ a0 ≤ 10000 ∧ l.length ≤ 128 := by
  unfold rightS at h
  by_cases c1 : a0 < 1
  · rw [if_pos c1] at h; omega
  rw [if_neg c1] at h
  by_cases c2 : a0 > 10000
  · rw [if_pos c2] at h; omega
  rw [if_neg c2] at h
  by_cases c3 : rtIds a0 0 l = true
  · rw [if_pos c3] at h
    by_cases c4 : l.length > 128
    · rw [if_pos c4] at h; omega
    · exact ⟨by omega, by omega, by omega⟩
  · rw [if_neg c3] at h; omega
theorem fits_of {l : List S39} (h1 : l.length * 24 ≤ 140737488351232) (h2 : ∀ x0 ∈ l, ((Lit.int .i64 x0.f0).wf = true ∧ x0.f1.size ≤ 140737488351232)) : bFitsB l = true := by
  unfold bFitsB
  rw [Bool.and_eq_true, decide_eq_true_eq, List.all_eq_true]
  refine ⟨by omega, fun b hb => ?_⟩
  obtain ⟨q1, q2⟩ := h2 b hb
  rw [Bool.and_eq_true, decide_eq_true_eq]
  exact ⟨q1, by simp only [maxLen]; omega⟩

/-! ### Contains, Keep, Get -/
theorem index_go (l : List Int) (x : Int) (hl : l.length ≤ 1099511627776) : ∀ (d i : Nat), i + d = l.length → ∃ v : Int, (0 ≤ v ↔ x ∈ l.drop i) ∧ Ev (fun k => slices_Index_int_int.l0 k l x (l.length : Int) (i : Int)) v
  | 0, i, h => by
    refine ⟨-1, by rw [List.drop_of_length_le (by omega)]; simp, ?_⟩
    refine Ev.step (fun k => by rw [slices_Index_int_int.l0]) ?_
    have h1 : ¬ ((i : Int) < (l.length : Int)) := by omega
    simp only [if_neg h1]
    exact Ev.now _
  | d + 1, i, h => by
    have hi : i < l.length := by omega
    have h1 : (i : Int) < (l.length : Int) := by omega
    have h2 : (0 : Int) ≤ (i : Int) := by omega
    have hr : rd l (i : Int) = l[i] := by unfold rd; rw [Int.toNat_natCast, List.getD_eq_getElem?_getD, List.getElem?_eq_getElem hi]; rfl
    obtain ⟨v, v1, v2⟩ := index_go l x hl d (i + 1) (by omega)
    by_cases c : x = l[i]
    · refine ⟨(i : Int), by rw [List.drop_eq_getElem_cons hi, c]; exact ⟨fun _ => List.mem_cons_self, fun _ => by omega⟩, ?_⟩
      refine Ev.step (fun k => by rw [slices_Index_int_int.l0]) ?_
      simp only [if_pos h1, if_pos h2, hr, if_pos c]
      exact Ev.now _
    · refine ⟨v, by rw [v1, List.drop_eq_getElem_cons hi, List.mem_cons]; exact ⟨fun h => .inr h, fun h => h.resolve_left c⟩, ?_⟩
      refine Ev.step (fun k => by rw [slices_Index_int_int.l0]) ?_
      simp only [if_pos h1, if_pos h2, hr, if_neg c, up i (by omega)]
      exact v2
theorem contains_ev (l : List Int) (x : Int) (hl : l.length ≤ 1099511627776) : Ev (fun k => slices_Contains_int_int.f k l x) (decide (x ∈ l)) := by
  obtain ⟨v, v1, v2⟩ := index_go l x hl l.length 0 (by omega)
  rw [List.drop_zero] at v1
  unfold slices_Contains_int_int.f slices_Index_int_int.f
  refine Ev.bind v2 ?_
  have e : decide (v ≥ 0) = decide (x ∈ l) := by
    by_cases c : x ∈ l
    · rw [decide_eq_true c, decide_eq_true (v1.2 c)]
    · rw [decide_eq_false c, decide_eq_false (fun hv => c (v1.1 hv))]
  rw [e]
  exact Ev.now _
def keepS (ids : List Int) (l : List S39) : List S39 := l.filter fun b => decide (b.f0 ∈ ids)
theorem keep_go (ids : List Int) (hi : ids.length ≤ 1099511627776) (a0 : Int) (l : List S39) (hl : l.length ≤ 1099511627776) : ∀ (d i : Nat) (acc : List S39), i + d = l.length → acc.length ≤ i → Ev (fun k => blob_Keep.l0 k ids acc l (l.length : Int) (i : Int) a0 l) (a0, acc ++ keepS ids (l.drop i))
  | 0, i, acc, h, ha => by
    refine Ev.step (fun k => by rw [blob_Keep.l0]) ?_
    have h1 : ¬ ((i : Int) < (l.length : Int)) := by omega
    rw [List.drop_of_length_le (by omega)]
    simp only [if_neg h1, keepS, List.filter_nil, List.append_nil]
    exact Ev.now _
  | d + 1, i, acc, h, ha => by
    refine Ev.step (fun k => by rw [blob_Keep.l0]) ?_
    have hi' : i < l.length := by omega
    have h1 : (i : Int) < (l.length : Int) := by omega
    have h2 : (0 : Int) ≤ (i : Int) := by omega
    have h3 : acc.length < 5864062014805 := by omega
    rw [List.drop_eq_getElem_cons hi']
    simp only [if_pos h1, if_pos h2, rd_at l i hi', up i (by omega)]
    refine Ev.bind (contains_ev ids _ hi) ?_
    have yes := keep_go ids hi a0 l hl d (i + 1) (acc ++ [l[i]]) (by omega) (by simp; omega)
    have no := keep_go ids hi a0 l hl d (i + 1) acc (by omega) (by omega)
    by_cases c : l[i].f0 ∈ ids
    · simp only [decide_eq_true c, if_true, if_pos h3]
      have e : keepS ids (l[i] :: l.drop (i + 1)) = l[i] :: keepS ids (l.drop (i + 1)) := by unfold keepS; rw [List.filter_cons, if_pos (decide_eq_true c)]
      rw [e]
      simpa using yes
    · simp only [decide_eq_false c, Bool.false_eq_true, if_false]
      have e : keepS ids (l[i] :: l.drop (i + 1)) = keepS ids (l.drop (i + 1)) := by unfold keepS; rw [List.filter_cons, if_neg (by simpa using c)]
      rw [e]
      exact no
theorem keep_ev (ids : List Int) (hi : ids.length ≤ 1099511627776) (a0 : Int) (l : List S39) (hl : l.length ≤ 1099511627776) : Ev (fun k => blob_Keep.f k a0 l ids) (a0, keepS ids l) := by
  unfold blob_Keep.f
  have h := keep_go ids hi a0 l hl l.length 0 [] (by omega) (by simp)
  rw [List.drop_zero] at h
  exact h
def getS (l : List S39) (id : Int) : ByteArray × Bool := match l with
  | [] => ((⟨#[]⟩ : ByteArray), false)
  | b :: r => if b.f0 = id then (b.f1, true) else getS r id
theorem get_go (id : Int) (l : List S39) (hl : l.length ≤ 1099511627776) : ∀ (d i : Nat), i + d = l.length → Ev (fun k => blob_Get.l0 k id l (l.length : Int) (i : Int)) (getS (l.drop i) id)
  | 0, i, h => by
    refine Ev.step (fun k => by rw [blob_Get.l0]) ?_
    have h1 : ¬ ((i : Int) < (l.length : Int)) := by omega
    rw [List.drop_of_length_le (by omega)]
    simp only [if_neg h1, getS]
    exact Ev.now _
  | d + 1, i, h => by
    refine Ev.step (fun k => by rw [blob_Get.l0]) ?_
    have hi : i < l.length := by omega
    have h1 : (i : Int) < (l.length : Int) := by omega
    have h2 : (0 : Int) ≤ (i : Int) := by omega
    rw [List.drop_eq_getElem_cons hi, getS]
    simp only [if_pos h1, if_pos h2, rd_at l i hi, up i (by omega)]
    by_cases c : l[i].f0 = id
    · simp only [if_pos c]; exact Ev.now _
    · simp only [if_neg c]; exact get_go id l hl d (i + 1) (by omega)
theorem get_ev (a0 id : Int) (l : List S39) (hl : l.length ≤ 1099511627776) : Ev (fun k => blob_Get.f k a0 l id) (getS l id) := by
  unfold blob_Get.f
  exact get_go id l hl l.length 0 (by omega)
/-! ### IDs -/
theorem ids_of {next : Int} : ∀ {last : Int} {l : List S39}, rtIds next last l = true → (∀ b ∈ l, last < b.f0 ∧ b.f0 < next) ∧ l.Pairwise (fun a b => a.f0 < b.f0)
  | last, [], _ => by simp
  | last, b :: r, h => by
    rw [rtIds] at h
    by_cases c1 : b.f0 ≤ last
    · rw [if_pos c1] at h; simp at h
    rw [if_neg c1] at h
    by_cases c2 : next ≤ b.f0
    · rw [if_pos c2] at h; simp at h
    rw [if_neg c2] at h
    obtain ⟨i1, i2⟩ := ids_of h
    refine ⟨fun x hx => ?_, List.pairwise_cons.2 ⟨fun x hx => (i1 x hx).1, i2⟩⟩
    rcases List.mem_cons.1 hx with rfl | hx
    · exact ⟨by omega, by omega⟩
    · have := i1 x hx; exact ⟨by omega, by omega⟩
theorem right_ids {a0 : Int} {l : List S39} (h : rightS a0 l = 0) : rtIds a0 0 l = true := by
  unfold rightS at h
  by_cases c1 : a0 < 1
  · rw [if_pos c1] at h; omega
  rw [if_neg c1] at h
  by_cases c2 : a0 > 10000
  · rw [if_pos c2] at h; omega
  rw [if_neg c2] at h
  by_cases c3 : rtIds a0 0 l = true
  · exact c3
  · rw [if_neg c3] at h; omega
theorem getS_none {id : Int} : ∀ {l : List S39}, (∀ b ∈ l, b.f0 ≠ id) → getS l id = ((⟨#[]⟩ : ByteArray), false)
  | [], _ => rfl
  | b :: r, h => by
    rw [getS, if_neg (h b List.mem_cons_self)]
    exact getS_none (fun x hx => h x (List.mem_cons_of_mem _ hx))
theorem getS_mem : ∀ {l : List S39} {b : S39}, l.Pairwise (fun a b => a.f0 < b.f0) → b ∈ l → getS l b.f0 = (b.f1, true)
  | [], _, _, h => by cases h
  | x :: r, b, hp, h => by
    rw [getS]
    obtain ⟨p1, p2⟩ := List.pairwise_cons.1 hp
    rcases List.mem_cons.1 h with rfl | h
    · rw [if_pos rfl]
    · rw [if_neg (by have := p1 b h; omega)]
      exact getS_mem p2 h
theorem btId_mem {t : ByteArray} : ∀ {l : List S39}, btHas l t = true → ∃ b ∈ l, b.f1 = t ∧ btId l t = b.f0
  | [], h => by simp [btHas] at h
  | b :: r, h => by
    by_cases c : b.f1 = t
    · exact ⟨b, List.mem_cons_self, c, by rw [btId, if_pos c]⟩
    · have h' : btHas r t = true := by
        unfold btHas at h ⊢
        rw [List.any_cons, decide_eq_false c, Bool.false_or] at h
        exact h
      obtain ⟨x, hx, h1, h2⟩ := btId_mem h'
      exact ⟨x, List.mem_cons_of_mem _ hx, h1, by rw [btId, if_neg c, h2]⟩
theorem BlobFresh : ∀ (a0 : S24) (a1 : (List Int)) (a2 : ByteArray), ((Lit.int .i64 a0.f0).wf = true ∧ (a0.f1.length * 24 ≤ 140737488351232 ∧ ∀ x0 ∈ a0.f1, ((Lit.int .i64 x0.f0).wf = true ∧ x0.f1.size ≤ 140737488351232))) → (a1.length * 8 ≤ 140737488351232 ∧ ∀ x0 ∈ a1, (Lit.int .i64 x0).wf = true) → a2.size ≤ 140737488351232 → ∃ k, codesearchlaw24_BlobFresh.f k a0.f0 a0.f1 a1 a2 = some true := by
  intro ⟨n, l⟩ ids t ⟨_, h1, h2⟩ _ ht
  refine Ev.rounds (g := fun k => codesearchlaw24_BlobFresh.f k n l ids t) ?_
  unfold codesearchlaw24_BlobFresh.f
  refine Ev.bind alive_ev ?_
  simp only [if_true]
  have j1 : Ev (fun k => codesearchlaw24_BlobFresh.j0 k ids t true n l) true := by
    refine Ev.step (fun k => by rw [codesearchlaw24_BlobFresh.j0]) ?_
    simp only [if_true]
    exact Ev.now _
  by_cases c1 : (l.length : Int) > 200
  · simp only [if_pos c1]; exact j1
  by_cases c2 : (ids.length : Int) > 200
  · simp only [if_neg c1, if_pos c2]; exact j1
  simp only [if_neg c1, if_neg c2]
  have hb := fits_of h1 h2
  have hl : l.length ≤ 1099511627776 := by omega
  refine Ev.bind (right_ev n l hb) ?_
  by_cases c3 : rightS n l = 0
  · have e3 : (rightS n l != 0) = false := by rw [c3]; rfl
    simp only [e3]
    refine Ev.step (fun k => by rw [codesearchlaw24_BlobFresh.j0]) ?_
    simp only [Bool.false_eq_true, if_false]
    refine Ev.bind (keep_ev ids (by omega) n l hl) ?_
    have hsub : ∀ b ∈ keepS ids l, b ∈ l := fun b hb => (List.mem_filter.1 hb).1
    have hlen : (keepS ids l).length ≤ l.length := List.length_filter_le _ _
    have hbk : bFitsB (keepS ids l) = true := fits_of (by omega) (fun x hx => h2 x (hsub x hx))
    refine Ev.bind (put_ev n (keepS ids l) t hbk (by simp only [maxLen]; omega)) ?_
    obtain ⟨i1, i2⟩ := ids_of (right_ids c3)
    by_cases c4 : (putS n (keepS ids l) t).2.2.2 = 0
    · simp only [if_pos c4]
      refine Ev.bind (get_ev n _ l hl) ?_
      have key : getS l (putS n (keepS ids l) t).2.2.1 = (t, true) ∨ getS l (putS n (keepS ids l) t).2.2.1 = ((⟨#[]⟩ : ByteArray), false) := by
        unfold putS at c4 ⊢
        by_cases d1 : rightS n (keepS ids l) = 0
        · rw [if_pos d1] at c4 ⊢
          by_cases d2 : validS t = true
          · rw [if_pos d2] at c4 ⊢
            by_cases d3 : btHas (keepS ids l) t = true
            · rw [if_pos d3]
              obtain ⟨b, hb1, hb2, hb3⟩ := btId_mem d3
              left
              show getS l (btId (keepS ids l) t) = _
              rw [hb3, getS_mem i2 (hsub b hb1), hb2]
            · rw [if_neg d3] at c4 ⊢
              by_cases d4 : 128 ≤ (keepS ids l).length
              · rw [if_pos d4] at c4; simp at c4
              · rw [if_neg d4] at c4 ⊢
                by_cases d5 : 9999 < n
                · rw [if_pos d5] at c4; simp at c4
                · rw [if_neg d5]
                  right
                  exact getS_none (fun b hb => by have := i1 b hb; show b.f0 ≠ n; omega)
          · rw [if_neg d2] at c4; simp at c4
        · rw [if_neg d1] at c4; exact absurd c4 d1
      rcases key with e | e
      · rw [e]; simp only [if_true, beq_self_eq_true]; exact Ev.now _
      · rw [e]; simp only [Bool.false_eq_true, if_false]; exact Ev.now _
    · simp only [if_neg c4]; exact Ev.now _
  · have e3 : (rightS n l != 0) = true := by simpa using c3
    simp only [e3]
    exact j1

end Go.Proofs.Ytgeejlfifeinmaa.Pure
