/-
  types: SameDecl of a declaration and itself; lists of whole numbers.
-/
import Derived.Test.YtoemdhcnfmkkaaaLibl
set_option linter.unusedVariables false
set_option linter.unusedSimpArgs false
set_option maxHeartbeats 8000000
set_option maxRecDepth 100000
namespace Go.Proofs.Ytoemdhcnfmkkaaa.AE
open Go
theorem get_mem {l : List Dc} {id : Int} {d : Dc} (h : get l id = some d) : d ∈ l := List.mem_of_find?_eq_some h
theorem owner_mem {l : List Dc} {c d : Dc} (h : owner l c = some d) : d ∈ l := by
  unfold owner at h
  split at h
  · exact get_mem (Option.eq_some_of_filter_eq_some h)
  · cases h
def Hid (p : Prop) : Prop := p
theorem owner_get {l : List Dc} {d p : Dc} (h : owner l d = some p) : get l d.parent = some p := by
  unfold owner at h
  split at h
  · exact Option.eq_some_of_filter_eq_some h
  · cases h
theorem owner_zd (l : List Dc) : owner l zd = none := rfl
theorem own_mem {l : List Dc} {t n : ByteArray} {d : Dc} (h : own l t n = some d) : d ∈ l := by
  unfold own at h
  split at h
  · exact List.mem_of_find?_eq_some h
  · cases h
theorem member_mem {l : List Dc} {t n : ByteArray} {d : Dc} (h : member l t n = some d) : d ∈ l := by
  unfold member at h
  obtain ⟨_, a, _, _, h, _⟩ := List.findSome?_eq_some_iff.1 h
  exact own_mem h
theorem f31 (d : Dc) (hp : d.params.length < 100000000000000) (hs : d.supers.length < 100000000000000) : callP (Lv xp md) 31 [.agg d.cells, .agg d.cells] = some [.bool true] := by
  refine fn_v (F := F31) rfl ?_
  have s1 := f37 d.pz d.pz d.params d.params hp hp
  have s2 := f37 d.sz d.sz d.supers d.supers hs hs
  rw [same_refl] at s1 s2
  have q : ∀ x : Int, decide (x = x) = true := fun x => by simp
  have q2 : ∀ x : ByteArray, decide (x = x) = true := fun x => by simp
  have q3 : ∀ x : Bool, decide (x = x) = true := fun x => by simp
  repeat' (first | intro _ | ((with_reducible first | apply s_p | apply s_n); rotate_left 1; exact ev_; rfl) | (with_reducible first | apply s_zn | apply s_zb | apply rn_seq | apply rn_blk | apply w_sn | apply w_sb | apply x_b0 | apply x_nx | apply r_nx | apply r_bk | apply n_nx | apply n_bk | apply q_nx | apply q_bk) | ((with_reducible apply s_gt); rotate_left 1; exact ev_) | ((with_reducible apply s_gf); rotate_left 1; exact a0_) | ((with_reducible apply s_gu); rotate_left 1; exact ev_) | ((with_reducible apply s_cs); rotate_left 1; rfl; exact ev_; exact fv_; rfl) | ((with_reducible apply s_cv); rotate_left 1; rfl; exact ev_; exact fv_; exact a1_; exact a2_; exact tk_) | ((with_reducible apply s_vs); rotate_left 1; exact ev_; rfl; exact ev_; exact fv_; rfl) | ((with_reducible first | apply s_g1 | apply s_g0); rotate_left 2; exact ev_) | ((with_reducible first | apply w_r | apply w_d); rotate_left 1; exact a7_; exact a8_) | ((with_reducible apply w_t); rotate_left 1; exact ev_) | ((with_reducible apply w_f); rotate_left 1; exact ev_) | ((with_reducible apply w_i); rotate_left 2; exact ev_) | ((with_reducible apply x_b1); rotate_left 1; (decide)) | ((with_reducible first | apply f_q | apply f_r | apply f_n | apply g_r | apply g_n); rotate_left 1; exact a9_; exact ev_) | ((with_reducible first | apply d_p | apply d_n); rotate_left 1; exact ev_; rfl; exact a3_; exact a4_) | ((with_reducible apply d_cs); rotate_left 1; rfl; exact ev_; exact fv_; rfl; exact a5_; exact a4_) | ((with_reducible apply d_cv); rotate_left 1; rfl; exact ev_; exact fv_; exact a1_; exact a2_; exact tk_; exact a6_; exact a4_) | ((with_reducible apply d_gt); rotate_left 1; exact ev_) | ((with_reducible apply d_gf); rotate_left 1; exact a0_) | ((with_reducible apply d_gu); rotate_left 1; exact ev_) | (with_reducible first | apply d_zn | apply d_zb) | ((with_reducible first | apply d_g1 | apply d_g0); rotate_left 2; exact ev_) | exact pr_ | fail)
  all_goals rfl
/-- A list of whole numbers. -/
def il (l : List Int) : List (List D) := l.map fun n => [.int .i64 n]
theorem il_at (l : List Int) (j : Nat) : (il l)[j]? = l[j]?.map fun s => [.int .i64 s] := by simp [il]
theorem il_len (l : List Int) : (il l).length = l.length := by simp [il]
theorem il_all (l : List Int) : ((il l).all fun y => decide (y.length = 1)) = true := by simp [il]
theorem il_app (l : List Int) (s : Int) : il l ++ [[.int .i64 s]] = il (l ++ [s]) := by simp [il]
attribute [go_sem] il_at il_len
def hasI (l : List Int) (t : Int) : Bool := l.any fun s => decide (s = t)
def idxI (l : List Int) (t : Int) : Int := match l.findIdx? fun s => decide (s = t) with
  | some i => (i : Int)
  | none => -1
theorem idxI_at {l : List Int} {t : Int} {j : Nat} (hj : l[j]? = some t) (hb : ∀ i x, i < j → l[i]? = some x → decide (t = x) = false) : idxI l t = (j : Int) := by
  obtain ⟨hlt, he⟩ := List.getElem?_eq_some_iff.1 hj
  have : (l.findIdx? fun s => decide (s = t)) = some j := by
    rw [List.findIdx?_eq_some_iff_getElem]
    exact ⟨hlt, by simpa using he, fun i hi => by have := hb i _ hi (List.getElem?_eq_getElem (by omega)); simp at this ⊢; exact fun h => this h.symm⟩
  simp only [idxI, this]
theorem idxI_no {l : List Int} {t : Int} (hb : ∀ i x, i < l.length → l[i]? = some x → decide (t = x) = false) : idxI l t = -1 := by
  have : (l.findIdx? fun s => decide (s = t)) = none := by
    rw [List.findIdx?_eq_none_iff]
    intro x hx
    obtain ⟨i, hi⟩ := List.getElem?_of_mem hx
    have := hb i x (List.getElem?_eq_some_iff.1 hi).1 hi
    simp at this ⊢; exact fun h => this h.symm
  simp only [idxI, this]
theorem idxI_has (l : List Int) (t : Int) : decide (0 ≤ idxI l t) = hasI l t := by
  unfold idxI hasI
  cases h : l.findIdx? fun s => decide (s = t) with
  | none =>
    rw [List.findIdx?_eq_none_iff] at h
    simp only [show decide (0 ≤ (-1 : Int)) = false from rfl]
    exact (List.any_eq_false.2 fun x hx => by rw [h x hx]; simp).symm
  | some i =>
    rw [List.findIdx?_eq_some_iff_getElem] at h
    obtain ⟨hi, hp, _⟩ := h
    simp only [show decide (0 ≤ (i : Int)) = true by simp]
    exact (List.any_eq_true.2 ⟨_, List.getElem_mem hi, hp⟩).symm
/-- A slice that is read and holds these whole numbers. -/
def IlD (d : D) (l : List Int) : Prop := d = .isl (il l) ∨ (d = .nls ∧ l = [])
theorem f65 {v : D} {l : List Int} (hv : IlD v l) (t : Int) (hl : l.length < 100000000000000) : callP (Lv xp md) 65 [v, .int .i64 t] = some [.int .i64 (idxI l t)] := by
  refine fn_v (F := F65) rfl ?_
  rcases hv with rfl | ⟨rfl, rfl⟩
  · repeat' (first | intro _ | ((with_reducible first | apply s_p | apply s_n); rotate_left 1; exact ev_; rfl) | (with_reducible first | apply s_zn | apply s_zb | apply rn_seq | apply rn_blk | apply w_sn | apply w_sb | apply x_b0 | apply x_nx | apply r_nx | apply r_bk | apply n_nx | apply n_bk | apply q_nx | apply q_bk) | ((with_reducible apply s_gt); rotate_left 1; exact ev_) | ((with_reducible apply s_gf); rotate_left 1; exact a0_) | ((with_reducible apply s_gu); rotate_left 1; exact ev_) | ((with_reducible apply s_cs); rotate_left 1; rfl; exact ev_; exact fv_; rfl) | ((with_reducible apply s_cv); rotate_left 1; rfl; exact ev_; exact fv_; exact a1_; exact a2_; exact tk_) | ((with_reducible apply s_vs); rotate_left 1; exact ev_; rfl; exact ev_; exact fv_; rfl) | ((with_reducible first | apply s_g1 | apply s_g0); rotate_left 2; exact ev_) | ((with_reducible first | apply w_r | apply w_d); rotate_left 1; exact a7_; exact a8_) | ((with_reducible apply w_t); rotate_left 1; exact ev_) | ((with_reducible apply w_f); rotate_left 1; exact ev_) | ((with_reducible apply w_i); rotate_left 2; exact ev_) | ((with_reducible apply x_b1); rotate_left 1; (decide)) | ((with_reducible first | apply f_q | apply f_r | apply f_n | apply g_r | apply g_n); rotate_left 1; exact a9_; exact ev_) | ((with_reducible first | apply d_p | apply d_n); rotate_left 1; exact ev_; rfl; exact a3_; exact a4_) | ((with_reducible apply d_cs); rotate_left 1; rfl; exact ev_; exact fv_; rfl; exact a5_; exact a4_) | ((with_reducible apply d_cv); rotate_left 1; rfl; exact ev_; exact fv_; exact a1_; exact a2_; exact tk_; exact a6_; exact a4_) | ((with_reducible apply d_gt); rotate_left 1; exact ev_) | ((with_reducible apply d_gf); rotate_left 1; exact a0_) | ((with_reducible apply d_gu); rotate_left 1; exact ev_) | (with_reducible first | apply d_zn | apply d_zb) | ((with_reducible first | apply d_g1 | apply d_g0); rotate_left 2; exact ev_) | exact pr_ | fail)
    refine rn_loop (l.length) (fun j st => st.e 0 = .isl (il l) ∧ st.e 1 = .int .i64 t ∧ st.e 7 = .int .i64 l.length ∧ st.e 8 = .int .i64 j ∧ (∀ i x, i < j → l[i]? = some x → decide (t = x) = false)) (j := 0) ⟨?_, ?_, ?_, ?_, fun i x hi => by omega⟩ (Nat.zero_le _) ?_
    all_goals first | (simp only [go_sem, ↓reduceIte, Nat.reduceEqDiff, Nat.reduceAdd, Nat.reduceMul, Nat.reduceSub, Nat.reduceLT, Nat.reduceLeDiff, Int.reduceEq, Int.reduceLT, Int.reduceLE, Int.reduceNeg, Int.reduceAdd, Int.reduceSub, reduceCtorEq]; done) | (simp only [go_sem, ↓reduceIte, Nat.reduceEqDiff, Nat.reduceAdd, Nat.reduceMul, Nat.reduceSub, Nat.reduceLT, Nat.reduceLeDiff, Int.reduceEq, Int.reduceLT, Int.reduceLE, Int.reduceNeg, Int.reduceAdd, Int.reduceSub, reduceCtorEq]; rfl) | (simp only; omega) | (simp only [go_sem, ↓reduceIte, Nat.reduceEqDiff, Nat.reduceAdd, Nat.reduceMul, Nat.reduceSub, Nat.reduceLT, Nat.reduceLeDiff, Int.reduceEq, Int.reduceLT, Int.reduceLE, Int.reduceNeg, Int.reduceAdd, Int.reduceSub, reduceCtorEq, *]; done) | (simp only [go_sem, ↓reduceIte, Nat.reduceEqDiff, Nat.reduceAdd, Nat.reduceMul, Nat.reduceSub, Nat.reduceLT, Nat.reduceLeDiff, Int.reduceEq, Int.reduceLT, Int.reduceLE, Int.reduceNeg, Int.reduceAdd, Int.reduceSub, reduceCtorEq, *]; rfl) | skip
    rintro j ⟨e, h, k⟩ hj ⟨i0, i1, i7, i8, iv⟩
    dsimp only at i0 i1 i7 i8
    rcases nextC hj with ⟨hlt, c1⟩ | ⟨rfl, c1⟩
    · obtain ⟨x, hx⟩ := at_lt hlt
      have w1 := inc64 j (by omega)
      repeat' (first | intro _ | ((with_reducible first | apply s_p | apply s_n); rotate_left 1; exact ev_; rfl) | (with_reducible first | apply s_zn | apply s_zb | apply rn_seq | apply rn_blk | apply w_sn | apply w_sb | apply x_b0 | apply x_nx | apply r_nx | apply r_bk | apply n_nx | apply n_bk | apply q_nx | apply q_bk) | ((with_reducible apply s_gt); rotate_left 1; exact ev_) | ((with_reducible apply s_gf); rotate_left 1; exact a0_) | ((with_reducible apply s_gu); rotate_left 1; exact ev_) | ((with_reducible apply s_cs); rotate_left 1; rfl; exact ev_; exact fv_; rfl) | ((with_reducible apply s_cv); rotate_left 1; rfl; exact ev_; exact fv_; exact a1_; exact a2_; exact tk_) | ((with_reducible apply s_vs); rotate_left 1; exact ev_; rfl; exact ev_; exact fv_; rfl) | ((with_reducible first | apply s_g1 | apply s_g0); rotate_left 2; exact ev_) | ((with_reducible first | apply w_r | apply w_d); rotate_left 1; exact a7_; exact a8_) | ((with_reducible apply w_t); rotate_left 1; exact ev_) | ((with_reducible apply w_f); rotate_left 1; exact ev_) | ((with_reducible apply w_i); rotate_left 2; exact ev_) | ((with_reducible apply x_b1); rotate_left 1; (decide)) | ((with_reducible first | apply f_q | apply f_r | apply f_n | apply g_r | apply g_n); rotate_left 1; exact a9_; exact ev_) | ((with_reducible first | apply d_p | apply d_n); rotate_left 1; exact ev_; rfl; exact a3_; exact a4_) | ((with_reducible apply d_cs); rotate_left 1; rfl; exact ev_; exact fv_; rfl; exact a5_; exact a4_) | ((with_reducible apply d_cv); rotate_left 1; rfl; exact ev_; exact fv_; exact a1_; exact a2_; exact tk_; exact a6_; exact a4_) | ((with_reducible apply d_gt); rotate_left 1; exact ev_) | ((with_reducible apply d_gf); rotate_left 1; exact a0_) | ((with_reducible apply d_gu); rotate_left 1; exact ev_) | (with_reducible first | apply d_zn | apply d_zb) | ((with_reducible first | apply d_g1 | apply d_g0); rotate_left 2; exact ev_) | exact pr_ | fail)
      · rename_i hh
        obtain rfl := of_decide_eq_true hh
        rw [idxI_at hx iv]
      · rename_i hh
        refine ⟨by omega, ?_, ?_, ?_, ?_, before_succ hx hh iv⟩
        all_goals first | (simp only [go_sem, ↓reduceIte, Nat.reduceEqDiff, Nat.reduceAdd, Nat.reduceMul, Nat.reduceSub, Nat.reduceLT, Nat.reduceLeDiff, Int.reduceEq, Int.reduceLT, Int.reduceLE, Int.reduceNeg, Int.reduceAdd, Int.reduceSub, reduceCtorEq, *]; done) | (simp only; omega) | (simp only [go_sem, ↓reduceIte, Nat.reduceEqDiff, Nat.reduceAdd, Nat.reduceMul, Nat.reduceSub, Nat.reduceLT, Nat.reduceLeDiff, Int.reduceEq, Int.reduceLT, Int.reduceLE, Int.reduceNeg, Int.reduceAdd, Int.reduceSub, reduceCtorEq, *]; rfl) | skip
    · repeat' (first | intro _ | ((with_reducible first | apply s_p | apply s_n); rotate_left 1; exact ev_; rfl) | (with_reducible first | apply s_zn | apply s_zb | apply rn_seq | apply rn_blk | apply w_sn | apply w_sb | apply x_b0 | apply x_nx | apply r_nx | apply r_bk | apply n_nx | apply n_bk | apply q_nx | apply q_bk) | ((with_reducible apply s_gt); rotate_left 1; exact ev_) | ((with_reducible apply s_gf); rotate_left 1; exact a0_) | ((with_reducible apply s_gu); rotate_left 1; exact ev_) | ((with_reducible apply s_cs); rotate_left 1; rfl; exact ev_; exact fv_; rfl) | ((with_reducible apply s_cv); rotate_left 1; rfl; exact ev_; exact fv_; exact a1_; exact a2_; exact tk_) | ((with_reducible apply s_vs); rotate_left 1; exact ev_; rfl; exact ev_; exact fv_; rfl) | ((with_reducible first | apply s_g1 | apply s_g0); rotate_left 2; exact ev_) | ((with_reducible first | apply w_r | apply w_d); rotate_left 1; exact a7_; exact a8_) | ((with_reducible apply w_t); rotate_left 1; exact ev_) | ((with_reducible apply w_f); rotate_left 1; exact ev_) | ((with_reducible apply w_i); rotate_left 2; exact ev_) | ((with_reducible apply x_b1); rotate_left 1; (decide)) | ((with_reducible first | apply f_q | apply f_r | apply f_n | apply g_r | apply g_n); rotate_left 1; exact a9_; exact ev_) | ((with_reducible first | apply d_p | apply d_n); rotate_left 1; exact ev_; rfl; exact a3_; exact a4_) | ((with_reducible apply d_cs); rotate_left 1; rfl; exact ev_; exact fv_; rfl; exact a5_; exact a4_) | ((with_reducible apply d_cv); rotate_left 1; rfl; exact ev_; exact fv_; exact a1_; exact a2_; exact tk_; exact a6_; exact a4_) | ((with_reducible apply d_gt); rotate_left 1; exact ev_) | ((with_reducible apply d_gf); rotate_left 1; exact a0_) | ((with_reducible apply d_gu); rotate_left 1; exact ev_) | (with_reducible first | apply d_zn | apply d_zb) | ((with_reducible first | apply d_g1 | apply d_g0); rotate_left 2; exact ev_) | exact pr_ | fail)
      rw [idxI_no iv]
  · have c0 : decide ((0 : Int) < ((0 : Nat) : Int)) = false := rfl
    repeat' (first | intro _ | ((with_reducible first | apply s_p | apply s_n); rotate_left 1; exact ev_; rfl) | (with_reducible first | apply s_zn | apply s_zb | apply rn_seq | apply rn_blk | apply w_sn | apply w_sb | apply x_b0 | apply x_nx | apply r_nx | apply r_bk | apply n_nx | apply n_bk | apply q_nx | apply q_bk) | ((with_reducible apply s_gt); rotate_left 1; exact ev_) | ((with_reducible apply s_gf); rotate_left 1; exact a0_) | ((with_reducible apply s_gu); rotate_left 1; exact ev_) | ((with_reducible apply s_cs); rotate_left 1; rfl; exact ev_; exact fv_; rfl) | ((with_reducible apply s_cv); rotate_left 1; rfl; exact ev_; exact fv_; exact a1_; exact a2_; exact tk_) | ((with_reducible apply s_vs); rotate_left 1; exact ev_; rfl; exact ev_; exact fv_; rfl) | ((with_reducible first | apply s_g1 | apply s_g0); rotate_left 2; exact ev_) | ((with_reducible first | apply w_r | apply w_d); rotate_left 1; exact a7_; exact a8_) | ((with_reducible apply w_t); rotate_left 1; exact ev_) | ((with_reducible apply w_f); rotate_left 1; exact ev_) | ((with_reducible apply w_i); rotate_left 2; exact ev_) | ((with_reducible apply x_b1); rotate_left 1; (decide)) | ((with_reducible first | apply f_q | apply f_r | apply f_n | apply g_r | apply g_n); rotate_left 1; exact a9_; exact ev_) | ((with_reducible first | apply d_p | apply d_n); rotate_left 1; exact ev_; rfl; exact a3_; exact a4_) | ((with_reducible apply d_cs); rotate_left 1; rfl; exact ev_; exact fv_; rfl; exact a5_; exact a4_) | ((with_reducible apply d_cv); rotate_left 1; rfl; exact ev_; exact fv_; exact a1_; exact a2_; exact tk_; exact a6_; exact a4_) | ((with_reducible apply d_gt); rotate_left 1; exact ev_) | ((with_reducible apply d_gf); rotate_left 1; exact a0_) | ((with_reducible apply d_gu); rotate_left 1; exact ev_) | (with_reducible first | apply d_zn | apply d_zb) | ((with_reducible first | apply d_g1 | apply d_g0); rotate_left 2; exact ev_) | exact pr_ | fail)
    apply rn_round
    repeat' (first | intro _ | ((with_reducible first | apply s_p | apply s_n); rotate_left 1; exact ev_; rfl) | (with_reducible first | apply s_zn | apply s_zb | apply rn_seq | apply rn_blk | apply w_sn | apply w_sb | apply x_b0 | apply x_nx | apply r_nx | apply r_bk | apply n_nx | apply n_bk | apply q_nx | apply q_bk) | ((with_reducible apply s_gt); rotate_left 1; exact ev_) | ((with_reducible apply s_gf); rotate_left 1; exact a0_) | ((with_reducible apply s_gu); rotate_left 1; exact ev_) | ((with_reducible apply s_cs); rotate_left 1; rfl; exact ev_; exact fv_; rfl) | ((with_reducible apply s_cv); rotate_left 1; rfl; exact ev_; exact fv_; exact a1_; exact a2_; exact tk_) | ((with_reducible apply s_vs); rotate_left 1; exact ev_; rfl; exact ev_; exact fv_; rfl) | ((with_reducible first | apply s_g1 | apply s_g0); rotate_left 2; exact ev_) | ((with_reducible first | apply w_r | apply w_d); rotate_left 1; exact a7_; exact a8_) | ((with_reducible apply w_t); rotate_left 1; exact ev_) | ((with_reducible apply w_f); rotate_left 1; exact ev_) | ((with_reducible apply w_i); rotate_left 2; exact ev_) | ((with_reducible apply x_b1); rotate_left 1; (decide)) | ((with_reducible first | apply f_q | apply f_r | apply f_n | apply g_r | apply g_n); rotate_left 1; exact a9_; exact ev_) | ((with_reducible first | apply d_p | apply d_n); rotate_left 1; exact ev_; rfl; exact a3_; exact a4_) | ((with_reducible apply d_cs); rotate_left 1; rfl; exact ev_; exact fv_; rfl; exact a5_; exact a4_) | ((with_reducible apply d_cv); rotate_left 1; rfl; exact ev_; exact fv_; exact a1_; exact a2_; exact tk_; exact a6_; exact a4_) | ((with_reducible apply d_gt); rotate_left 1; exact ev_) | ((with_reducible apply d_gf); rotate_left 1; exact a0_) | ((with_reducible apply d_gu); rotate_left 1; exact ev_) | (with_reducible first | apply d_zn | apply d_zb) | ((with_reducible first | apply d_g1 | apply d_g0); rotate_left 2; exact ev_) | exact pr_ | fail)
    rfl
theorem f53 {v : D} {l : List Int} (hv : IlD v l) (t : Int) (hl : l.length < 100000000000000) : callP (Lv xp md) 53 [v, .int .i64 t] = some [.bool (hasI l t)] := by
  refine fn_v (F := F53) rfl ?_
  have s65 := f65 hv t hl
  have hw : ∀ h, frz 9 h v = some (v, h) := by rcases hv with rfl | ⟨rfl, rfl⟩ <;> exact fun h => rfl
  repeat' (first | intro _ | ((with_reducible first | apply s_p | apply s_n); rotate_left 1; exact ev_; rfl) | (with_reducible first | apply s_zn | apply s_zb | apply rn_seq | apply rn_blk | apply w_sn | apply w_sb | apply x_b0 | apply x_nx | apply r_nx | apply r_bk | apply n_nx | apply n_bk | apply q_nx | apply q_bk) | ((with_reducible apply s_gt); rotate_left 1; exact ev_) | ((with_reducible apply s_gf); rotate_left 1; exact a0_) | ((with_reducible apply s_gu); rotate_left 1; exact ev_) | ((with_reducible apply s_cs); rotate_left 1; rfl; exact ev_; exact fv_; rfl) | ((with_reducible apply s_cv); rotate_left 1; rfl; exact ev_; exact fv_; exact a1_; exact a2_; exact tk_) | ((with_reducible apply s_vs); rotate_left 1; exact ev_; rfl; exact ev_; exact fv_; rfl) | ((with_reducible first | apply s_g1 | apply s_g0); rotate_left 2; exact ev_) | ((with_reducible first | apply w_r | apply w_d); rotate_left 1; exact a7_; exact a8_) | ((with_reducible apply w_t); rotate_left 1; exact ev_) | ((with_reducible apply w_f); rotate_left 1; exact ev_) | ((with_reducible apply w_i); rotate_left 2; exact ev_) | ((with_reducible apply x_b1); rotate_left 1; (decide)) | ((with_reducible first | apply f_q | apply f_r | apply f_n | apply g_r | apply g_n); rotate_left 1; exact a9_; exact ev_) | ((with_reducible first | apply d_p | apply d_n); rotate_left 1; exact ev_; rfl; exact a3_; exact a4_) | ((with_reducible apply d_cs); rotate_left 1; rfl; exact ev_; exact fv_; rfl; exact a5_; exact a4_) | ((with_reducible apply d_cv); rotate_left 1; rfl; exact ev_; exact fv_; exact a1_; exact a2_; exact tk_; exact a6_; exact a4_) | ((with_reducible apply d_gt); rotate_left 1; exact ev_) | ((with_reducible apply d_gf); rotate_left 1; exact a0_) | ((with_reducible apply d_gu); rotate_left 1; exact ev_) | (with_reducible first | apply d_zn | apply d_zb) | ((with_reducible first | apply d_g1 | apply d_g0); rotate_left 2; exact ev_) | exact pr_ | fail)
  rw [idxI_has]
/-- A list made by appends: its elements' type e, its rows xs, named o or none; names from b on, below k. -/
def OutW (h : Hp) (b k e : Nat) (xs : List (List D)) (ov : D) : Prop := (xs = [] ∧ ov = .nls) ∨ ∃ o, ov = .osl o ∧ b ≤ o ∧ o < k ∧ h o = .row e 1 xs true ∧ xs ≠ []
theorem OutW.put {h : Hp} {b k e j k' : Nat} {xs : List (List D)} {ov : D} (hv : OutW h b k e xs ov) (hj : k ≤ j ∨ j < b) (hk : k ≤ k') (ob : Ob) : OutW (hput h j ob) b k' e xs ov := by
  rcases hv with hv | ⟨o, c1, c2, c3, c4, c5⟩
  · exact .inl hv
  · exact .inr ⟨o, c1, c2, by omega, by rw [hput_ne _ _ (by omega)]; exact c4, c5⟩
theorem OutW.put1 {h : Hp} {b k e j : Nat} {xs : List (List D)} {ov : D} (hv : OutW h b k e xs ov) (hj : k ≤ j ∨ j < b) {ob : Ob} : OutW (hput h j ob) b k e xs ov := hv.put hj (Nat.le_refl _) ob
theorem OutW.up {h : Hp} {b k k' e : Nat} {xs : List (List D)} {ov : D} (hv : OutW h b k e xs ov) (hk : k ≤ k') : OutW h b k' e xs ov := by
  rcases hv with hv | ⟨o, c1, c2, c3, c4, c5⟩
  · exact .inl hv
  · exact .inr ⟨o, c1, c2, by omega, c4, c5⟩
def rdW (e : Nat) (xs : List (List D)) : D := if xs.isEmpty then .nls else .own e 1 xs
theorem OutW.ret {h : Hp} {b k e : Nat} {xs : List (List D)} {ov : D} (hv : OutW h b k e xs ov) : retL h [ov] = some [rdW e xs] := by
  rcases hv with ⟨rfl, rfl⟩ | ⟨o, rfl, _, _, ho, hne⟩
  · rfl
  · have : xs.isEmpty = false := by cases xs with | nil => exact absurd rfl hne | cons => rfl
    simp only [rdW, this]
    simp only [go_sem, ↓reduceIte, Nat.reduceEqDiff, Nat.reduceAdd, Nat.reduceMul, Nat.reduceSub, Nat.reduceLT, Nat.reduceLeDiff, Int.reduceEq, Int.reduceLT, Int.reduceLE, Int.reduceNeg, Int.reduceAdd, Int.reduceSub, reduceCtorEq, *]
theorem rdW_cases (e : Nat) (xs : List (List D)) : (xs = [] ∧ rdW e xs = .nls) ∨ (xs ≠ [] ∧ rdW e xs = .own e 1 xs) := by
  cases xs with
  | nil => exact .inl ⟨rfl, rfl⟩
  | cons a r => exact .inr ⟨by simp, rfl⟩
end Go.Proofs.Ytoemdhcnfmkkaaa.AE
