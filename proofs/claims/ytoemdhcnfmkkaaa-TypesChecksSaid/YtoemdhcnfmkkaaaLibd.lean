/-
  types: the closure of Supers.
-/
import Derived.Test.YtoemdhcnfmkkaaaLibc
set_option linter.unusedVariables false
set_option linter.unusedSimpArgs false
set_option maxHeartbeats 4000000
namespace Go.Proofs.Ytoemdhcnfmkkaaa.AE
open Go
/-- The blocks of a run of Supers. -/
def Bq (l : List Dc) (t : ByteArray) (out : List ByteArray) (h : Hp) (k : Nat) : Prop :=
  h 0 = .var [.isl (dl l)] true ∧ h 56 = .var [.mpr 24] true ∧ (∃ es, h 24 = .mp es ∧ ∀ s, mfind s es = if sn t out s then some (.int .i64 1) else none) ∧ (∃ ov, h 16 = .var [ov] true ∧ OutV h 72 k out ov) ∧ 72 ≤ k
theorem Bq.put {l : List Dc} {t : ByteArray} {out : List ByteArray} {h : Hp} {k j k' : Nat} (hb : Bq l t out h k) (hj : k ≤ j) (hk : k ≤ k') (ob : Ob) : Bq l t out (hput h j ob) k' := by
  obtain ⟨b1, b2, ⟨es, b3, b4⟩, ⟨ov, b5, b6⟩, b7⟩ := hb
  have q : ∀ i, i < k → hput h j ob i = h i := fun i hi => hput_ne _ _ (by omega)
  refine ⟨by rw [q 0 (by omega)]; exact b1, by rw [q 56 (by omega)]; exact b2, ⟨es, by rw [q 24 (by omega)]; exact b3, b4⟩, ⟨ov, by rw [q 16 (by omega)]; exact b5, ?_⟩, by omega⟩
  rcases b6 with b6 | ⟨o, c1, c2, c3, c4, c5⟩
  · exact .inl b6
  · exact .inr ⟨o, c1, c2, by omega, by rw [q o c3]; exact c4, c5⟩
theorem Bq.up {l : List Dc} {t : ByteArray} {out : List ByteArray} {h : Hp} {k k' : Nat} (hb : Bq l t out h k) (hk : k ≤ k') : Bq l t out h k' := by
  obtain ⟨b1, b2, b3, ⟨ov, b5, b6⟩, b7⟩ := hb
  refine ⟨b1, b2, b3, ⟨ov, b5, ?_⟩, by omega⟩
  rcases b6 with b6 | ⟨o, c1, c2, c3, c4, c5⟩
  · exact .inl b6
  · exact .inr ⟨o, c1, c2, by omega, c4, c5⟩
theorem f38 (l : List Dc) (t name : ByteArray) (hs : small l = true) (out : List ByteArray) (hg : Good l t out) (h : Hp) (k : Nat) (hb : Bq l t out h k) :
    ∃ h' k', Lv xp md 38 [.str name, .ptr 0 0 0, .ptr 56 0 0, .ptr 16 0 0] h k = some ([], h', k') ∧ ∃ e : Env, (fun s : St => Bq l t (addAll t out (kids l name)) s.h s.k) ⟨e, h', k'⟩ := by
  refine fn_e (F := F38) (args := [.str name, .ptr 0 0 0, .ptr 56 0 0, .ptr 16 0 0]) (K := fun s => Bq l t (addAll t out (kids l name)) s.h s.k) rfl ?_
  have hb0 := hb
  obtain ⟨b1, b2, ⟨es, b3, b4⟩, ⟨ov, b5, b6⟩, b7⟩ := hb
  have hl := (small_len hs).1
  have s35 := f35 l name (by omega)
  have n1 : ∀ c, c < 72 → (c = k) = False := fun c hc => by simp; omega
  cases hn : named l name with
  | none =>
    rw [hn] at s35
    repeat' (first | intro _ | ((with_reducible first | apply s_p | apply s_n); rotate_left 1; exact ev_; rfl) | (with_reducible first | apply s_zn | apply s_zb | apply rn_seq | apply rn_blk | apply w_sn | apply w_sb | apply x_b0 | apply x_nx | apply r_nx | apply r_bk | apply n_nx | apply n_bk | apply q_nx | apply q_bk) | ((with_reducible apply s_gt); rotate_left 1; exact ev_) | ((with_reducible apply s_gf); rotate_left 1; exact a0_) | ((with_reducible apply s_gu); rotate_left 1; exact ev_) | ((with_reducible apply s_cs); rotate_left 1; rfl; exact ev_; exact fv_; rfl) | ((with_reducible apply s_cv); rotate_left 1; rfl; exact ev_; exact fv_; exact a1_; exact a2_; exact tk_) | ((with_reducible apply s_vs); rotate_left 1; exact ev_; rfl; exact ev_; exact fv_; rfl) | ((with_reducible first | apply s_g1 | apply s_g0); rotate_left 2; exact ev_) | ((with_reducible first | apply w_r | apply w_d); rotate_left 1; exact a7_; exact a8_) | ((with_reducible apply w_t); rotate_left 1; exact ev_) | ((with_reducible apply w_f); rotate_left 1; exact ev_) | ((with_reducible apply w_i); rotate_left 2; exact ev_) | ((with_reducible apply x_b1); rotate_left 1; (decide)) | ((with_reducible first | apply f_q | apply f_r | apply f_n | apply g_r | apply g_n); rotate_left 1; exact a9_; exact ev_) | ((with_reducible first | apply d_p | apply d_n); rotate_left 1; exact ev_; rfl; exact a3_; exact a4_) | ((with_reducible apply d_cs); rotate_left 1; rfl; exact ev_; exact fv_; rfl; exact a5_; exact a4_) | ((with_reducible apply d_cv); rotate_left 1; rfl; exact ev_; exact fv_; exact a1_; exact a2_; exact tk_; exact a6_; exact a4_) | ((with_reducible apply d_gt); rotate_left 1; exact ev_) | ((with_reducible apply d_gf); rotate_left 1; exact a0_) | ((with_reducible apply d_gu); rotate_left 1; exact ev_) | (with_reducible first | apply d_zn | apply d_zb) | ((with_reducible first | apply d_g1 | apply d_g0); rotate_left 2; exact ev_) | exact pr_ | fail)
    refine ⟨rfl, ?_⟩
    rw [show kids l name = [] by simp only [kids, hn]]
    dsimp only
    exact ((hb0.put (by omega) (Nat.le_refl _) _).put (by omega) (by omega) _)
  | some d =>
    rw [hn] at s35
    have hk : kids l name = d.supers := by simp only [kids, hn]
    have hdl := (small_len hs).2 d (named_mem hn)
    repeat' (first | intro _ | ((with_reducible first | apply s_p | apply s_n); rotate_left 1; exact ev_; rfl) | (with_reducible first | apply s_zn | apply s_zb | apply rn_seq | apply rn_blk | apply w_sn | apply w_sb | apply x_b0 | apply x_nx | apply r_nx | apply r_bk | apply n_nx | apply n_bk | apply q_nx | apply q_bk) | ((with_reducible apply s_gt); rotate_left 1; exact ev_) | ((with_reducible apply s_gf); rotate_left 1; exact a0_) | ((with_reducible apply s_gu); rotate_left 1; exact ev_) | ((with_reducible apply s_cs); rotate_left 1; rfl; exact ev_; exact fv_; rfl) | ((with_reducible apply s_cv); rotate_left 1; rfl; exact ev_; exact fv_; exact a1_; exact a2_; exact tk_) | ((with_reducible apply s_vs); rotate_left 1; exact ev_; rfl; exact ev_; exact fv_; rfl) | ((with_reducible first | apply s_g1 | apply s_g0); rotate_left 2; exact ev_) | ((with_reducible first | apply w_r | apply w_d); rotate_left 1; exact a7_; exact a8_) | ((with_reducible apply w_t); rotate_left 1; exact ev_) | ((with_reducible apply w_f); rotate_left 1; exact ev_) | ((with_reducible apply w_i); rotate_left 2; exact ev_) | ((with_reducible apply x_b1); rotate_left 1; (decide)) | ((with_reducible first | apply f_q | apply f_r | apply f_n | apply g_r | apply g_n); rotate_left 1; exact a9_; exact ev_) | ((with_reducible first | apply d_p | apply d_n); rotate_left 1; exact ev_; rfl; exact a3_; exact a4_) | ((with_reducible apply d_cs); rotate_left 1; rfl; exact ev_; exact fv_; rfl; exact a5_; exact a4_) | ((with_reducible apply d_cv); rotate_left 1; rfl; exact ev_; exact fv_; exact a1_; exact a2_; exact tk_; exact a6_; exact a4_) | ((with_reducible apply d_gt); rotate_left 1; exact ev_) | ((with_reducible apply d_gf); rotate_left 1; exact a0_) | ((with_reducible apply d_gu); rotate_left 1; exact ev_) | (with_reducible first | apply d_zn | apply d_zb) | ((with_reducible first | apply d_g1 | apply d_g0); rotate_left 2; exact ev_) | exact pr_ | fail)
    clear b4 b5 b6 b1 b2 b3 n1
    refine rn_loop d.supers.length (fun j st => st.e 2 = .ptr 56 0 0 ∧ st.e 3 = .ptr 16 0 0 ∧ st.e 18 = ld d.sz d.supers ∧ st.e 19 = .int .i64 d.supers.length ∧ st.e 20 = .int .i64 j ∧ Bq l t (addAll t out (d.supers.take j)) st.h st.k) (j := 0) ⟨?_, ?_, ?_, ?_, ?_, ?_⟩ (Nat.zero_le _) ?_
    · simp only [go_sem, ↓reduceIte, Nat.reduceEqDiff, Nat.reduceAdd, Nat.reduceMul, Nat.reduceSub, Nat.reduceLT, Nat.reduceLeDiff, Int.reduceEq, Int.reduceLT, Int.reduceLE, Int.reduceNeg, Int.reduceAdd, Int.reduceSub, reduceCtorEq]
    · simp only [go_sem, ↓reduceIte, Nat.reduceEqDiff, Nat.reduceAdd, Nat.reduceMul, Nat.reduceSub, Nat.reduceLT, Nat.reduceLeDiff, Int.reduceEq, Int.reduceLT, Int.reduceLE, Int.reduceNeg, Int.reduceAdd, Int.reduceSub, reduceCtorEq]
    · simp only [go_sem, ↓reduceIte, Nat.reduceEqDiff, Nat.reduceAdd, Nat.reduceMul, Nat.reduceSub, Nat.reduceLT, Nat.reduceLeDiff, Int.reduceEq, Int.reduceLT, Int.reduceLE, Int.reduceNeg, Int.reduceAdd, Int.reduceSub, reduceCtorEq]
    · simp only [go_sem, ↓reduceIte, Nat.reduceEqDiff, Nat.reduceAdd, Nat.reduceMul, Nat.reduceSub, Nat.reduceLT, Nat.reduceLeDiff, Int.reduceEq, Int.reduceLT, Int.reduceLE, Int.reduceNeg, Int.reduceAdd, Int.reduceSub, reduceCtorEq]
    · simp only [go_sem, ↓reduceIte, Nat.reduceEqDiff, Nat.reduceAdd, Nat.reduceMul, Nat.reduceSub, Nat.reduceLT, Nat.reduceLeDiff, Int.reduceEq, Int.reduceLT, Int.reduceLE, Int.reduceNeg, Int.reduceAdd, Int.reduceSub, reduceCtorEq]; rfl
    · dsimp only
      exact ((hb0.put (by omega) (Nat.le_refl _) _).put (by omega) (by omega) _)
    clear hb0 s35 h k b7
    rintro j ⟨e, h, k⟩ hj ⟨i2, i3, i18, i19, i20, hb⟩
    dsimp only at i2 i3 i18 i19 i20 hb
    have hb0 := hb
    obtain ⟨b1, b2, ⟨es, b3, b4⟩, ⟨ov, b5, b6⟩, b7⟩ := hb
    have n1 : ∀ c, c < 72 → (c = k) = False := fun c hc => by simp; omega
    rcases nextC hj with ⟨hlt, c1⟩ | ⟨rfl, c1⟩
    · obtain ⟨x, hx⟩ := at_lt hlt
      have w1 := inc64 j (by omega)
      have hgo : Good l t (addAll t out (d.supers.take j)) := addAll_good hg (fun y hy => kids_pool (t := name) (by rw [hk]; exact List.mem_of_mem_take hy))
      have hO := good_len hs hgo
      have ht := addAll_take (t := t) (out := out) hx
      generalize addAll t out (d.supers.take j) = O at *
      cases hsn : sn t O x with
      | true =>
        repeat' (first | intro _ | ((with_reducible first | apply s_p | apply s_n); rotate_left 1; exact ev_; rfl) | (with_reducible first | apply s_zn | apply s_zb | apply rn_seq | apply rn_blk | apply w_sn | apply w_sb | apply x_b0 | apply x_nx | apply r_nx | apply r_bk | apply n_nx | apply n_bk | apply q_nx | apply q_bk) | ((with_reducible apply s_gt); rotate_left 1; exact ev_) | ((with_reducible apply s_gf); rotate_left 1; exact a0_) | ((with_reducible apply s_gu); rotate_left 1; exact ev_) | ((with_reducible apply s_cs); rotate_left 1; rfl; exact ev_; exact fv_; rfl) | ((with_reducible apply s_cv); rotate_left 1; rfl; exact ev_; exact fv_; exact a1_; exact a2_; exact tk_) | ((with_reducible apply s_vs); rotate_left 1; exact ev_; rfl; exact ev_; exact fv_; rfl) | ((with_reducible first | apply s_g1 | apply s_g0); rotate_left 2; exact ev_) | ((with_reducible first | apply w_r | apply w_d); rotate_left 1; exact a7_; exact a8_) | ((with_reducible apply w_t); rotate_left 1; exact ev_) | ((with_reducible apply w_f); rotate_left 1; exact ev_) | ((with_reducible apply w_i); rotate_left 2; exact ev_) | ((with_reducible apply x_b1); rotate_left 1; (decide)) | ((with_reducible first | apply f_q | apply f_r | apply f_n | apply g_r | apply g_n); rotate_left 1; exact a9_; exact ev_) | ((with_reducible first | apply d_p | apply d_n); rotate_left 1; exact ev_; rfl; exact a3_; exact a4_) | ((with_reducible apply d_cs); rotate_left 1; rfl; exact ev_; exact fv_; rfl; exact a5_; exact a4_) | ((with_reducible apply d_cv); rotate_left 1; rfl; exact ev_; exact fv_; exact a1_; exact a2_; exact tk_; exact a6_; exact a4_) | ((with_reducible apply d_gt); rotate_left 1; exact ev_) | ((with_reducible apply d_gf); rotate_left 1; exact a0_) | ((with_reducible apply d_gu); rotate_left 1; exact ev_) | (with_reducible first | apply d_zn | apply d_zb) | ((with_reducible first | apply d_g1 | apply d_g0); rotate_left 2; exact ev_) | exact pr_ | fail)
        refine ⟨hlt, ?_, ?_, ?_, ?_, ?_, ?_⟩
        all_goals try (simp only [go_sem, ↓reduceIte, Nat.reduceEqDiff, Nat.reduceAdd, Nat.reduceMul, Nat.reduceSub, Nat.reduceLT, Nat.reduceLeDiff, Int.reduceEq, Int.reduceLT, Int.reduceLE, Int.reduceNeg, Int.reduceAdd, Int.reduceSub, reduceCtorEq, *]; done)
        rw [ht]
        dsimp only
        rw [show push t O x = O by unfold push; rw [if_pos hsn]]
        exact hb0.up (by omega)
      | false =>
        have b4' := fun s => b4 s
        rcases b6 with ⟨rfl, rfl⟩ | ⟨o, rfl, c2, c3, c4, c5⟩
        · repeat' (first | intro _ | ((with_reducible first | apply s_p | apply s_n); rotate_left 1; exact ev_; rfl) | (with_reducible first | apply s_zn | apply s_zb | apply rn_seq | apply rn_blk | apply w_sn | apply w_sb | apply x_b0 | apply x_nx | apply r_nx | apply r_bk | apply n_nx | apply n_bk | apply q_nx | apply q_bk) | ((with_reducible apply s_gt); rotate_left 1; exact ev_) | ((with_reducible apply s_gf); rotate_left 1; exact a0_) | ((with_reducible apply s_gu); rotate_left 1; exact ev_) | ((with_reducible apply s_cs); rotate_left 1; rfl; exact ev_; exact fv_; rfl) | ((with_reducible apply s_cv); rotate_left 1; rfl; exact ev_; exact fv_; exact a1_; exact a2_; exact tk_) | ((with_reducible apply s_vs); rotate_left 1; exact ev_; rfl; exact ev_; exact fv_; rfl) | ((with_reducible first | apply s_g1 | apply s_g0); rotate_left 2; exact ev_) | ((with_reducible first | apply w_r | apply w_d); rotate_left 1; exact a7_; exact a8_) | ((with_reducible apply w_t); rotate_left 1; exact ev_) | ((with_reducible apply w_f); rotate_left 1; exact ev_) | ((with_reducible apply w_i); rotate_left 2; exact ev_) | ((with_reducible apply x_b1); rotate_left 1; (decide)) | ((with_reducible first | apply f_q | apply f_r | apply f_n | apply g_r | apply g_n); rotate_left 1; exact a9_; exact ev_) | ((with_reducible first | apply d_p | apply d_n); rotate_left 1; exact ev_; rfl; exact a3_; exact a4_) | ((with_reducible apply d_cs); rotate_left 1; rfl; exact ev_; exact fv_; rfl; exact a5_; exact a4_) | ((with_reducible apply d_cv); rotate_left 1; rfl; exact ev_; exact fv_; exact a1_; exact a2_; exact tk_; exact a6_; exact a4_) | ((with_reducible apply d_gt); rotate_left 1; exact ev_) | ((with_reducible apply d_gf); rotate_left 1; exact a0_) | ((with_reducible apply d_gu); rotate_left 1; exact ev_) | (with_reducible first | apply d_zn | apply d_zb) | ((with_reducible first | apply d_g1 | apply d_g0); rotate_left 2; exact ev_) | exact pr_ | fail)
          refine ⟨hlt, ?_, ?_, ?_, ?_, ?_, ?_⟩
          all_goals try (simp only [go_sem, ↓reduceIte, Nat.reduceEqDiff, Nat.reduceAdd, Nat.reduceMul, Nat.reduceSub, Nat.reduceLT, Nat.reduceLeDiff, Int.reduceEq, Int.reduceLT, Int.reduceLE, Int.reduceNeg, Int.reduceAdd, Int.reduceSub, reduceCtorEq, *]; done)
          rw [ht]
          rw [show push t [] x = [x] by unfold push; rw [if_neg (by rw [hsn]; simp)]; rfl]
          refine ⟨by simp only [go_sem, ↓reduceIte, Nat.reduceEqDiff, Nat.reduceAdd, Nat.reduceMul, Nat.reduceSub, Nat.reduceLT, Nat.reduceLeDiff, Int.reduceEq, Int.reduceLT, Int.reduceLE, Int.reduceNeg, Int.reduceAdd, Int.reduceSub, reduceCtorEq, *], by simp only [go_sem, ↓reduceIte, Nat.reduceEqDiff, Nat.reduceAdd, Nat.reduceMul, Nat.reduceSub, Nat.reduceLT, Nat.reduceLeDiff, Int.reduceEq, Int.reduceLT, Int.reduceLE, Int.reduceNeg, Int.reduceAdd, Int.reduceSub, reduceCtorEq, *], ⟨mset x (.int .i64 1) es, by simp only [go_sem, ↓reduceIte, Nat.reduceEqDiff, Nat.reduceAdd, Nat.reduceMul, Nat.reduceSub, Nat.reduceLT, Nat.reduceLeDiff, Int.reduceEq, Int.reduceLT, Int.reduceLE, Int.reduceNeg, Int.reduceAdd, Int.reduceSub, reduceCtorEq, *], fun s => ?_⟩, ⟨.osl (k + 112), by simp only [go_sem, ↓reduceIte, Nat.reduceEqDiff, Nat.reduceAdd, Nat.reduceMul, Nat.reduceSub, Nat.reduceLT, Nat.reduceLeDiff, Int.reduceEq, Int.reduceLT, Int.reduceLE, Int.reduceNeg, Int.reduceAdd, Int.reduceSub, reduceCtorEq, *], .inr ⟨k + 112, rfl, by omega, by simp only; omega, by simp only [go_sem, ↓reduceIte, Nat.reduceEqDiff, Nat.reduceAdd, Nat.reduceMul, Nat.reduceSub, Nat.reduceLT, Nat.reduceLeDiff, Int.reduceEq, Int.reduceLT, Int.reduceLE, Int.reduceNeg, Int.reduceAdd, Int.reduceSub, reduceCtorEq, *]; rfl, by simp⟩⟩, by simp only; omega⟩
          rw [mfind_mset, b4' s]
          have := sn_push t [] x s
          rw [show push t [] x = [x] by unfold push; rw [if_neg (by rw [hsn]; simp)]; rfl] at this
          rw [this]
          by_cases hsx : s = x
          · simp [hsx]
          · simp [hsx]
        · have n2 : ∀ c, c < 72 → (c = o) = False := fun c hc => by simp; omega
          have n3 : ∀ c, (o = k + c) = False := fun c => by simp; omega
          have n4 : ∀ c, (k + c = o) = False := fun c => by simp; omega
          have u1 := sl_len O
          have u2 := sl_all O
          have u3 : O.length ≤ 68719476735 := by omega
          have n5 : ∀ c, c < 72 → (o = c) = False := fun c hc => by simp; omega
          repeat' (first | intro _ | ((with_reducible first | apply s_p | apply s_n); rotate_left 1; exact ev_; rfl) | (with_reducible first | apply s_zn | apply s_zb | apply rn_seq | apply rn_blk | apply w_sn | apply w_sb | apply x_b0 | apply x_nx | apply r_nx | apply r_bk | apply n_nx | apply n_bk | apply q_nx | apply q_bk) | ((with_reducible apply s_gt); rotate_left 1; exact ev_) | ((with_reducible apply s_gf); rotate_left 1; exact a0_) | ((with_reducible apply s_gu); rotate_left 1; exact ev_) | ((with_reducible apply s_cs); rotate_left 1; rfl; exact ev_; exact fv_; rfl) | ((with_reducible apply s_cv); rotate_left 1; rfl; exact ev_; exact fv_; exact a1_; exact a2_; exact tk_) | ((with_reducible apply s_vs); rotate_left 1; exact ev_; rfl; exact ev_; exact fv_; rfl) | ((with_reducible first | apply s_g1 | apply s_g0); rotate_left 2; exact ev_) | ((with_reducible first | apply w_r | apply w_d); rotate_left 1; exact a7_; exact a8_) | ((with_reducible apply w_t); rotate_left 1; exact ev_) | ((with_reducible apply w_f); rotate_left 1; exact ev_) | ((with_reducible apply w_i); rotate_left 2; exact ev_) | ((with_reducible apply x_b1); rotate_left 1; (decide)) | ((with_reducible first | apply f_q | apply f_r | apply f_n | apply g_r | apply g_n); rotate_left 1; exact a9_; exact ev_) | ((with_reducible first | apply d_p | apply d_n); rotate_left 1; exact ev_; rfl; exact a3_; exact a4_) | ((with_reducible apply d_cs); rotate_left 1; rfl; exact ev_; exact fv_; rfl; exact a5_; exact a4_) | ((with_reducible apply d_cv); rotate_left 1; rfl; exact ev_; exact fv_; exact a1_; exact a2_; exact tk_; exact a6_; exact a4_) | ((with_reducible apply d_gt); rotate_left 1; exact ev_) | ((with_reducible apply d_gf); rotate_left 1; exact a0_) | ((with_reducible apply d_gu); rotate_left 1; exact ev_) | (with_reducible first | apply d_zn | apply d_zb) | ((with_reducible first | apply d_g1 | apply d_g0); rotate_left 2; exact ev_) | exact pr_ | fail)
          refine ⟨hlt, ?_, ?_, ?_, ?_, ?_, ?_⟩
          all_goals try (simp only [go_sem, ↓reduceIte, Nat.reduceEqDiff, Nat.reduceAdd, Nat.reduceMul, Nat.reduceSub, Nat.reduceLT, Nat.reduceLeDiff, Int.reduceEq, Int.reduceLT, Int.reduceLE, Int.reduceNeg, Int.reduceAdd, Int.reduceSub, reduceCtorEq, *]; done)
          rw [ht]
          have hp : push t O x = O ++ [x] := by unfold push; rw [if_neg (by rw [hsn]; simp)]
          rw [hp]
          refine ⟨by simp only [go_sem, ↓reduceIte, Nat.reduceEqDiff, Nat.reduceAdd, Nat.reduceMul, Nat.reduceSub, Nat.reduceLT, Nat.reduceLeDiff, Int.reduceEq, Int.reduceLT, Int.reduceLE, Int.reduceNeg, Int.reduceAdd, Int.reduceSub, reduceCtorEq, *], by simp only [go_sem, ↓reduceIte, Nat.reduceEqDiff, Nat.reduceAdd, Nat.reduceMul, Nat.reduceSub, Nat.reduceLT, Nat.reduceLeDiff, Int.reduceEq, Int.reduceLT, Int.reduceLE, Int.reduceNeg, Int.reduceAdd, Int.reduceSub, reduceCtorEq, *], ⟨mset x (.int .i64 1) es, by simp only [go_sem, ↓reduceIte, Nat.reduceEqDiff, Nat.reduceAdd, Nat.reduceMul, Nat.reduceSub, Nat.reduceLT, Nat.reduceLeDiff, Int.reduceEq, Int.reduceLT, Int.reduceLE, Int.reduceNeg, Int.reduceAdd, Int.reduceSub, reduceCtorEq, *], fun s => ?_⟩, ⟨.osl (k + 112), by simp only [go_sem, ↓reduceIte, Nat.reduceEqDiff, Nat.reduceAdd, Nat.reduceMul, Nat.reduceSub, Nat.reduceLT, Nat.reduceLeDiff, Int.reduceEq, Int.reduceLT, Int.reduceLE, Int.reduceNeg, Int.reduceAdd, Int.reduceSub, reduceCtorEq, *], .inr ⟨k + 112, rfl, by omega, by simp only; omega, by simp only [go_sem, ↓reduceIte, Nat.reduceEqDiff, Nat.reduceAdd, Nat.reduceMul, Nat.reduceSub, Nat.reduceLT, Nat.reduceLeDiff, Int.reduceEq, Int.reduceLT, Int.reduceLE, Int.reduceNeg, Int.reduceAdd, Int.reduceSub, reduceCtorEq, *, sl_one, ← sl_app], by simp⟩⟩, by simp only; omega⟩
          rw [mfind_mset, b4' s]
          have := sn_push t O x s
          rw [hp] at this
          rw [this]
          by_cases hsx : s = x
          · simp [hsx]
          · simp [hsx]
    · repeat' (first | intro _ | ((with_reducible first | apply s_p | apply s_n); rotate_left 1; exact ev_; rfl) | (with_reducible first | apply s_zn | apply s_zb | apply rn_seq | apply rn_blk | apply w_sn | apply w_sb | apply x_b0 | apply x_nx | apply r_nx | apply r_bk | apply n_nx | apply n_bk | apply q_nx | apply q_bk) | ((with_reducible apply s_gt); rotate_left 1; exact ev_) | ((with_reducible apply s_gf); rotate_left 1; exact a0_) | ((with_reducible apply s_gu); rotate_left 1; exact ev_) | ((with_reducible apply s_cs); rotate_left 1; rfl; exact ev_; exact fv_; rfl) | ((with_reducible apply s_cv); rotate_left 1; rfl; exact ev_; exact fv_; exact a1_; exact a2_; exact tk_) | ((with_reducible apply s_vs); rotate_left 1; exact ev_; rfl; exact ev_; exact fv_; rfl) | ((with_reducible first | apply s_g1 | apply s_g0); rotate_left 2; exact ev_) | ((with_reducible first | apply w_r | apply w_d); rotate_left 1; exact a7_; exact a8_) | ((with_reducible apply w_t); rotate_left 1; exact ev_) | ((with_reducible apply w_f); rotate_left 1; exact ev_) | ((with_reducible apply w_i); rotate_left 2; exact ev_) | ((with_reducible apply x_b1); rotate_left 1; (decide)) | ((with_reducible first | apply f_q | apply f_r | apply f_n | apply g_r | apply g_n); rotate_left 1; exact a9_; exact ev_) | ((with_reducible first | apply d_p | apply d_n); rotate_left 1; exact ev_; rfl; exact a3_; exact a4_) | ((with_reducible apply d_cs); rotate_left 1; rfl; exact ev_; exact fv_; rfl; exact a5_; exact a4_) | ((with_reducible apply d_cv); rotate_left 1; rfl; exact ev_; exact fv_; exact a1_; exact a2_; exact tk_; exact a6_; exact a4_) | ((with_reducible apply d_gt); rotate_left 1; exact ev_) | ((with_reducible apply d_gf); rotate_left 1; exact a0_) | ((with_reducible apply d_gu); rotate_left 1; exact ev_) | (with_reducible first | apply d_zn | apply d_zb) | ((with_reducible first | apply d_g1 | apply d_g0); rotate_left 2; exact ev_) | exact pr_ | fail)
      refine ⟨rfl, ?_⟩
      dsimp only
      rw [hk]
      rw [List.take_length] at hb0
      exact hb0.up (by omega)
end Go.Proofs.Ytoemdhcnfmkkaaa.AE
