/-
  types: own, Member, both.
-/
import Derived.Test.YtoemdhcnfmkkaaaLibh
import Derived.Test.YtoemdhcnfmkkaaaLibg
set_option linter.unusedVariables false
set_option linter.unusedSimpArgs false
set_option maxHeartbeats 8000000
namespace Go.Proofs.Ytoemdhcnfmkkaaa.AE
open Go
theorem findq_at {α : Type} {l : List α} {p : α → Bool} {j : Nat} {d : α} (hd : l[j]? = some d) (hn : p d = true) (hb : ∀ i x, i < j → l[i]? = some x → p x = false) : l.find? p = some d := by
  obtain ⟨hj, rfl⟩ := List.getElem?_eq_some_iff.1 hd
  rw [List.find?_eq_some_iff_getElem]
  exact ⟨hn, j, hj, rfl, fun i hi => by rw [hb i _ hi (List.getElem?_eq_getElem (by omega))]; rfl⟩
theorem findq_no {α : Type} {l : List α} {p : α → Bool} (hb : ∀ i x, i < l.length → l[i]? = some x → p x = false) : l.find? p = none := by
  rw [List.find?_eq_none]
  intro x hx
  obtain ⟨i, hi⟩ := List.getElem?_of_mem hx
  rw [hb i x (List.getElem?_eq_some_iff.1 hi).1 hi]
  simp
def tst (c : Dc) (name : ByteArray) (d : Dc) : Bool := decide (d.parent = c.id) && (decide (d.kind = 5) || decide (d.kind = 6)) && decide (simple d.name = name)
def own (l : List Dc) (t name : ByteArray) : Option Dc := match named l t with
  | some c => l.find? (tst c name)
  | none => none
def Nm (l : List Dc) : Prop := ∀ d ∈ l, d.name.size < 1000000000000000
theorem own_hit {l : List Dc} {t name : ByteArray} {c d : Dc} {j : Nat} (hn : named l t = some c) (hd : l[j]? = some d) (hp : tst c name d = true) (hb : ∀ i x, i < j → l[i]? = some x → tst c name x = false) : own l t name = some d := by
  unfold own; rw [hn]; exact findq_at hd hp hb
theorem own_no {l : List Dc} {t name : ByteArray} {c : Dc} (hn : named l t = some c) (hb : ∀ i x, i < l.length → l[i]? = some x → tst c name x = false) : own l t name = none := by
  unfold own; rw [hn]; exact findq_no hb
theorem own_un {l : List Dc} {t name : ByteArray} (hn : named l t = none) : own l t name = none := by
  unfold own; rw [hn]
theorem f47 (l : List Dc) (t name : ByteArray) (hl : l.length < 100000000000000) (hN : Nm l) : callP (Lv xp md) 47 [.isl (dl l), .str t, .str name] = some [.agg (orz (own l t name)).cells, .bool (own l t name).isSome] := by
  refine fn_v (F := F47) rfl ?_
  have s35 := f35 l t hl
  cases hn : named l t with
  | none =>
    rw [hn] at s35
    rw [own_un hn]
    repeat' (first | intro _ | ((with_reducible first | apply s_p | apply s_n); rotate_left 1; exact ev_; rfl) | (with_reducible first | apply s_zn | apply s_zb | apply rn_seq | apply rn_blk | apply w_sn | apply w_sb | apply x_b0 | apply x_nx | apply r_nx | apply r_bk | apply n_nx | apply n_bk | apply q_nx | apply q_bk) | ((with_reducible apply s_gt); rotate_left 1; exact ev_) | ((with_reducible apply s_gf); rotate_left 1; exact a0_) | ((with_reducible apply s_gu); rotate_left 1; exact ev_) | ((with_reducible apply s_cs); rotate_left 1; rfl; exact ev_; exact fv_; rfl) | ((with_reducible apply s_cv); rotate_left 1; rfl; exact ev_; exact fv_; exact a1_; exact a2_; exact tk_) | ((with_reducible apply s_vs); rotate_left 1; exact ev_; rfl; exact ev_; exact fv_; rfl) | ((with_reducible first | apply s_g1 | apply s_g0); rotate_left 2; exact ev_) | ((with_reducible first | apply w_r | apply w_d); rotate_left 1; exact a7_; exact a8_) | ((with_reducible apply w_t); rotate_left 1; exact ev_) | ((with_reducible apply w_f); rotate_left 1; exact ev_) | ((with_reducible apply w_i); rotate_left 2; exact ev_) | ((with_reducible apply x_b1); rotate_left 1; (decide)) | ((with_reducible first | apply f_q | apply f_r | apply f_n | apply g_r | apply g_n); rotate_left 1; exact a9_; exact ev_) | ((with_reducible first | apply d_p | apply d_n); rotate_left 1; exact ev_; rfl; exact a3_; exact a4_) | ((with_reducible apply d_cs); rotate_left 1; rfl; exact ev_; exact fv_; rfl; exact a5_; exact a4_) | ((with_reducible apply d_cv); rotate_left 1; rfl; exact ev_; exact fv_; exact a1_; exact a2_; exact tk_; exact a6_; exact a4_) | ((with_reducible apply d_gt); rotate_left 1; exact ev_) | ((with_reducible apply d_gf); rotate_left 1; exact a0_) | ((with_reducible apply d_gu); rotate_left 1; exact ev_) | (with_reducible first | apply d_zn | apply d_zb) | ((with_reducible first | apply d_g1 | apply d_g0); rotate_left 2; exact ev_) | exact pr_ | fail)
    simp only [go_sem, ↓reduceIte, Nat.reduceEqDiff, Nat.reduceAdd, Nat.reduceMul, Nat.reduceSub, Nat.reduceLT, Nat.reduceLeDiff, Int.reduceEq, Int.reduceLT, Int.reduceLE, Int.reduceNeg, Int.reduceAdd, Int.reduceSub, reduceCtorEq]
  | some c =>
    rw [hn] at s35
    repeat' (first | intro _ | ((with_reducible first | apply s_p | apply s_n); rotate_left 1; exact ev_; rfl) | (with_reducible first | apply s_zn | apply s_zb | apply rn_seq | apply rn_blk | apply w_sn | apply w_sb | apply x_b0 | apply x_nx | apply r_nx | apply r_bk | apply n_nx | apply n_bk | apply q_nx | apply q_bk) | ((with_reducible apply s_gt); rotate_left 1; exact ev_) | ((with_reducible apply s_gf); rotate_left 1; exact a0_) | ((with_reducible apply s_gu); rotate_left 1; exact ev_) | ((with_reducible apply s_cs); rotate_left 1; rfl; exact ev_; exact fv_; rfl) | ((with_reducible apply s_cv); rotate_left 1; rfl; exact ev_; exact fv_; exact a1_; exact a2_; exact tk_) | ((with_reducible apply s_vs); rotate_left 1; exact ev_; rfl; exact ev_; exact fv_; rfl) | ((with_reducible first | apply s_g1 | apply s_g0); rotate_left 2; exact ev_) | ((with_reducible first | apply w_r | apply w_d); rotate_left 1; exact a7_; exact a8_) | ((with_reducible apply w_t); rotate_left 1; exact ev_) | ((with_reducible apply w_f); rotate_left 1; exact ev_) | ((with_reducible apply w_i); rotate_left 2; exact ev_) | ((with_reducible apply x_b1); rotate_left 1; (decide)) | ((with_reducible first | apply f_q | apply f_r | apply f_n | apply g_r | apply g_n); rotate_left 1; exact a9_; exact ev_) | ((with_reducible first | apply d_p | apply d_n); rotate_left 1; exact ev_; rfl; exact a3_; exact a4_) | ((with_reducible apply d_cs); rotate_left 1; rfl; exact ev_; exact fv_; rfl; exact a5_; exact a4_) | ((with_reducible apply d_cv); rotate_left 1; rfl; exact ev_; exact fv_; exact a1_; exact a2_; exact tk_; exact a6_; exact a4_) | ((with_reducible apply d_gt); rotate_left 1; exact ev_) | ((with_reducible apply d_gf); rotate_left 1; exact a0_) | ((with_reducible apply d_gu); rotate_left 1; exact ev_) | (with_reducible first | apply d_zn | apply d_zb) | ((with_reducible first | apply d_g1 | apply d_g0); rotate_left 2; exact ev_) | exact pr_ | fail)
    refine rn_loop l.length (fun j st => st.e 2 = .str name ∧ st.e 6 = .ptr 0 0 0 ∧ st.e 8 = .ptr 64 0 0 ∧ st.e 21 = .isl (dl l) ∧ st.e 22 = .int .i64 l.length ∧ st.e 23 = .int .i64 j ∧ (∀ i x, i < j → l[i]? = some x → tst c name x = false) ∧ st.h 0 = .var zd.cells true ∧ st.h 64 = .var c.cells true ∧ 88 ≤ st.k) (j := 0) ⟨?_, ?_, ?_, ?_, ?_, ?_, fun i x hi => by omega, ?_, ?_, ?_⟩ (Nat.zero_le _) ?_
    all_goals first | (simp only [go_sem, ↓reduceIte, Nat.reduceEqDiff, Nat.reduceAdd, Nat.reduceMul, Nat.reduceSub, Nat.reduceLT, Nat.reduceLeDiff, Int.reduceEq, Int.reduceLT, Int.reduceLE, Int.reduceNeg, Int.reduceAdd, Int.reduceSub, reduceCtorEq]; done) | (simp only [go_sem, ↓reduceIte, Nat.reduceEqDiff, Nat.reduceAdd, Nat.reduceMul, Nat.reduceSub, Nat.reduceLT, Nat.reduceLeDiff, Int.reduceEq, Int.reduceLT, Int.reduceLE, Int.reduceNeg, Int.reduceAdd, Int.reduceSub, reduceCtorEq]; rfl) | (simp only; omega) | skip
    clear s35
    rintro j ⟨e, h, k⟩ hj ⟨i2, i6, i8, i21, i22, i23, iv, ih, ih2, ik⟩
    dsimp only at i2 i6 i8 i21 i22 i23 ih ih2 ik
    have n1 : ∀ c, c < 88 → (c = k) = False := fun c hc => by simp; omega
    have n2 : ∀ c, c < 88 → (k = c) = False := fun c hc => by simp; omega
    rcases nextC hj with ⟨hlt, c1⟩ | ⟨rfl, c1⟩
    · obtain ⟨x, hx⟩ := at_lt hlt
      have w1 := inc64 j (by omega)
      have s52 := f52 x.name (hN x (List.mem_of_getElem? hx))
      have ht : tst c name x = (decide (x.parent = c.id) && (decide (x.kind = 5) || decide (x.kind = 6)) && decide (simple x.name = name)) := rfl
      cases q1 : decide (x.parent = c.id) <;> cases q2 : decide (x.kind = 5) <;> cases q3 : decide (x.kind = 6) <;> cases q4 : decide (simple x.name = name) <;> rw [q1, q2, q3, q4] at ht <;> simp only [Bool.and_true, Bool.and_false, Bool.or_true, Bool.or_false, Bool.true_and, Bool.false_and, Bool.true_or, Bool.false_or] at ht
      all_goals
        repeat' (first | intro _ | ((with_reducible first | apply s_p | apply s_n); rotate_left 1; exact ev_; rfl) | (with_reducible first | apply s_zn | apply s_zb | apply rn_seq | apply rn_blk | apply w_sn | apply w_sb | apply x_b0 | apply x_nx | apply r_nx | apply r_bk | apply n_nx | apply n_bk | apply q_nx | apply q_bk) | ((with_reducible apply s_gt); rotate_left 1; exact ev_) | ((with_reducible apply s_gf); rotate_left 1; exact a0_) | ((with_reducible apply s_gu); rotate_left 1; exact ev_) | ((with_reducible apply s_cs); rotate_left 1; rfl; exact ev_; exact fv_; rfl) | ((with_reducible apply s_cv); rotate_left 1; rfl; exact ev_; exact fv_; exact a1_; exact a2_; exact tk_) | ((with_reducible apply s_vs); rotate_left 1; exact ev_; rfl; exact ev_; exact fv_; rfl) | ((with_reducible first | apply s_g1 | apply s_g0); rotate_left 2; exact ev_) | ((with_reducible first | apply w_r | apply w_d); rotate_left 1; exact a7_; exact a8_) | ((with_reducible apply w_t); rotate_left 1; exact ev_) | ((with_reducible apply w_f); rotate_left 1; exact ev_) | ((with_reducible apply w_i); rotate_left 2; exact ev_) | ((with_reducible apply x_b1); rotate_left 1; (decide)) | ((with_reducible first | apply f_q | apply f_r | apply f_n | apply g_r | apply g_n); rotate_left 1; exact a9_; exact ev_) | ((with_reducible first | apply d_p | apply d_n); rotate_left 1; exact ev_; rfl; exact a3_; exact a4_) | ((with_reducible apply d_cs); rotate_left 1; rfl; exact ev_; exact fv_; rfl; exact a5_; exact a4_) | ((with_reducible apply d_cv); rotate_left 1; rfl; exact ev_; exact fv_; exact a1_; exact a2_; exact tk_; exact a6_; exact a4_) | ((with_reducible apply d_gt); rotate_left 1; exact ev_) | ((with_reducible apply d_gf); rotate_left 1; exact a0_) | ((with_reducible apply d_gu); rotate_left 1; exact ev_) | (with_reducible first | apply d_zn | apply d_zb) | ((with_reducible first | apply d_g1 | apply d_g0); rotate_left 2; exact ev_) | exact pr_ | fail)
      all_goals first
        | (rw [own_hit hn hx ht iv]; simp only [go_sem, ↓reduceIte, Nat.reduceEqDiff, Nat.reduceAdd, Nat.reduceMul, Nat.reduceSub, Nat.reduceLT, Nat.reduceLeDiff, Int.reduceEq, Int.reduceLT, Int.reduceLE, Int.reduceNeg, Int.reduceAdd, Int.reduceSub, reduceCtorEq]; done)
        | (refine ⟨hlt, ?_, ?_, ?_, ?_, ?_, ?_, before_succ hx ht iv, ?_, ?_, ?_⟩)
      all_goals try (simp only [go_sem, ↓reduceIte, Nat.reduceEqDiff, Nat.reduceAdd, Nat.reduceMul, Nat.reduceSub, Nat.reduceLT, Nat.reduceLeDiff, Int.reduceEq, Int.reduceLT, Int.reduceLE, Int.reduceNeg, Int.reduceAdd, Int.reduceSub, reduceCtorEq, *]; done)
      all_goals try (simp only; omega)
    · repeat' (first | intro _ | ((with_reducible first | apply s_p | apply s_n); rotate_left 1; exact ev_; rfl) | (with_reducible first | apply s_zn | apply s_zb | apply rn_seq | apply rn_blk | apply w_sn | apply w_sb | apply x_b0 | apply x_nx | apply r_nx | apply r_bk | apply n_nx | apply n_bk | apply q_nx | apply q_bk) | ((with_reducible apply s_gt); rotate_left 1; exact ev_) | ((with_reducible apply s_gf); rotate_left 1; exact a0_) | ((with_reducible apply s_gu); rotate_left 1; exact ev_) | ((with_reducible apply s_cs); rotate_left 1; rfl; exact ev_; exact fv_; rfl) | ((with_reducible apply s_cv); rotate_left 1; rfl; exact ev_; exact fv_; exact a1_; exact a2_; exact tk_) | ((with_reducible apply s_vs); rotate_left 1; exact ev_; rfl; exact ev_; exact fv_; rfl) | ((with_reducible first | apply s_g1 | apply s_g0); rotate_left 2; exact ev_) | ((with_reducible first | apply w_r | apply w_d); rotate_left 1; exact a7_; exact a8_) | ((with_reducible apply w_t); rotate_left 1; exact ev_) | ((with_reducible apply w_f); rotate_left 1; exact ev_) | ((with_reducible apply w_i); rotate_left 2; exact ev_) | ((with_reducible apply x_b1); rotate_left 1; (decide)) | ((with_reducible first | apply f_q | apply f_r | apply f_n | apply g_r | apply g_n); rotate_left 1; exact a9_; exact ev_) | ((with_reducible first | apply d_p | apply d_n); rotate_left 1; exact ev_; rfl; exact a3_; exact a4_) | ((with_reducible apply d_cs); rotate_left 1; rfl; exact ev_; exact fv_; rfl; exact a5_; exact a4_) | ((with_reducible apply d_cv); rotate_left 1; rfl; exact ev_; exact fv_; exact a1_; exact a2_; exact tk_; exact a6_; exact a4_) | ((with_reducible apply d_gt); rotate_left 1; exact ev_) | ((with_reducible apply d_gf); rotate_left 1; exact a0_) | ((with_reducible apply d_gu); rotate_left 1; exact ev_) | (with_reducible first | apply d_zn | apply d_zb) | ((with_reducible first | apply d_g1 | apply d_g0); rotate_left 2; exact ev_) | exact pr_ | fail)
      rw [own_no hn iv]
      simp only [go_sem, ↓reduceIte, Nat.reduceEqDiff, Nat.reduceAdd, Nat.reduceMul, Nat.reduceSub, Nat.reduceLT, Nat.reduceLeDiff, Int.reduceEq, Int.reduceLT, Int.reduceLE, Int.reduceNeg, Int.reduceAdd, Int.reduceSub, reduceCtorEq]
end Go.Proofs.Ytoemdhcnfmkkaaa.AE
