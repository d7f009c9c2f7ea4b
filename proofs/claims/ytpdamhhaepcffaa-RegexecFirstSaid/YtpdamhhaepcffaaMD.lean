/-
  regexec: which expressions are right: the program.
-/
import Derived.Test.YtpdamhhaepcffaaMC
set_option linter.unusedVariables false
set_option linter.unusedSimpArgs false
set_option maxHeartbeats 8000000
set_option maxRecDepth 100000
namespace Go.Proofs.Ytpdamhhaepcffaa.AE
open Go
/-- An expression whose lists have lengths that can be. -/
inductive Rx.In : Rx → Prop
  | mk {k : Int} {z : Bool} {set : List (Int × Int)} {mn mx : Int} {subs : List Rx} (hs : set.length < 100000000000000) (hl : subs.length < 2000000000000) (h : ∀ r, r ∈ subs → Rx.In r) : Rx.In (.mk k z set mn mx subs)
def bad1 (k : Int) (nset nsub : Nat) (mn mx : Int) : Bool :=
  (decide (k < 1) || decide (7 < k)) || (decide (decide (k = 1) = decide ((nset : Int) = 0)) || ((decide (k = 4) && !decide ((nsub : Int) = 1)) || ((decide (k = 3) && decide ((nsub : Int) < 2)) || ((!(decide (k = 4) || decide (k = 2) || decide (k = 3)) && decide ((0 : Int) < nsub)) || (!decide (k = 4) && (!decide (mn = 0) || !decide (mx = 0)))))))
def badR (set : List (Int × Int)) : Bool := set.any fun r => decide (r.2 < r.1)
def bad2 (k mn mx : Int) : Bool := decide (k = 4) && ((decide (mn < 0) || decide (8 < mn)) || (!decide (mx = -1) && ((decide (mx < 1) || decide (8 < mx)) || decide (mx < mn))))
mutual
/-- The error of the nodes, in preorder; 0: none. -/
def nodeE : Rx → Int
  | .mk k _ set mn mx subs => if bad1 k set.length subs.length mn mx then 1 else if badR set then 1 else if bad2 k mn mx then 2 else nodesE subs
def nodesE : List Rx → Int
  | [] => 0
  | r :: q => if decide (nodeE r = 0) then nodesE q else nodeE r
end
theorem nodes_yes : ∀ {l : List Rx} {j : Nat} {x : Rx}, l[j]? = some x → nodeE x ≠ 0 → (∀ i y, i < j → l[i]? = some y → nodeE y = 0) → nodesE l = nodeE x
  | r :: q, 0, x, hx, hn, hb => by
    simp at hx; subst hx
    rw [nodesE, if_neg (by simpa using hn)]
  | r :: q, j + 1, x, hx, hn, hb => by
    have h0 := hb 0 r (by omega) rfl
    rw [nodesE, if_pos (by simpa using h0)]
    exact nodes_yes (by simpa using hx) hn (fun i y hi hy => hb (i + 1) y (by omega) (by simpa using hy))
theorem nodes_no : ∀ {l : List Rx}, (∀ i y, i < l.length → l[i]? = some y → nodeE y = 0) → nodesE l = 0
  | [], _ => rfl
  | r :: q, hb => by
    have h0 := hb 0 r (by simp) rfl
    rw [nodesE, if_pos (by simpa using h0)]
    exact nodes_no (fun i y hi hy => hb (i + 1) y (by simp; omega) (by simpa using hy))
theorem nodes_all : ∀ {l : List Rx}, nodesE l = 0 → ∀ r ∈ l, nodeE r = 0
  | [], _, r, hr => by cases hr
  | x :: q, h, r, hr => by
    rw [nodesE] at h
    split at h
    · rename_i h0
      rcases List.mem_cons.1 hr with rfl | hr
      · exact of_decide_eq_true h0
      · exact nodes_all h r hr
    · rename_i h0
      exact absurd (decide_eq_true h) h0
theorem in38a {cs : List D} {z : Bool} {set : List (Int × Int)} (hs : set.length < 100000000000000) (e : Env) (h : Hp) (k : Nat) (Q : Ex → St → Prop) (i1 : e 1 = .ptr 0 0 0) (i80 : e 80 = rz z set) (i81 : e 81 = .int .i64 set.length) (i82 : e 82 = .int .i64 (0 : Nat)) (b0 : h 0 = .var cs true) (ik : 16 ≤ k)
    (hr : ∀ (e' : Env) (h' : Hp) (k' : Nat), badR set = true → e' 2 = .int .i64 1 → Q .ret ⟨e', h', k'⟩) (hn : ∀ (e' : Env) (h' : Hp) (k' : Nat), badR set = false → e' 1 = .ptr 0 0 0 → e' 4 = e 4 → h' 0 = .var cs true → 16 ≤ k' → Q .nrm ⟨e', h', k'⟩) : Rn xp md (.loop L38_0) ⟨e, h, k⟩ (Bk 1 Q) := by
  generalize e4 : e 4 = v4 at *
  refine rn_loop (set.length) (fun j st => st.e 1 = .ptr 0 0 0 ∧ st.e 4 = v4 ∧ st.e 80 = rz z set ∧ st.e 81 = .int .i64 set.length ∧ st.e 82 = .int .i64 j ∧ st.h 0 = .var cs true ∧ (∀ i x, i < j → set[i]? = some x → decide (x.2 < x.1) = false) ∧ 16 ≤ st.k) (j := 0) ⟨?_, ?_, ?_, ?_, ?_, ?_, fun i x hi => by omega, ?_⟩ (Nat.zero_le _) ?_
  all_goals first | exact eA | exact eB | exact eO | exact eC | exact eD | skip
  rintro j ⟨e, h, k⟩ hj ⟨i1, i4, i80, i81, i82, b0, iv, ik⟩
  dsimp only at i1 i4 i80 i81 i82 b0 ik
  have n1 : ∀ c, c < 16 → (c = k) = False := fun c hc => by simp; omega
  have n2 : ∀ c, c < 16 → (k = c) = False := fun c hc => by simp; omega
  rcases nextC hj with ⟨hlt, c1⟩ | ⟨rfl, c1⟩
  · obtain ⟨x, hx⟩ := at_lt hlt
    have w1 := inc64 j (by omega)
    cases hp : decide (x.2 < x.1) with
    | true =>
      have hb : badR set = true := any_yes (p := fun r : Int × Int => decide (r.2 < r.1)) hx hp
      have hr' := fun (e' : Env) (h' : Hp) (k' : Nat) => hr e' h' k' hb
      clear iv hr hn hb
      refine gK ?_
      exact rn_ret (hr' _ _ _ eA)
    | false =>
      have iv2 := before_succ (p := fun r : Int × Int => decide (r.2 < r.1) = false) hx hp iv
      clear iv hr hn
      refine gK ?_
      refine ⟨by omega, ?_, ?_, ?_, ?_, ?_, ?_, iv2, ?_⟩
      all_goals first | exact eC | exact eO | exact eD | skip
  · have hb : badR set = false := any_no (p := fun r : Int × Int => decide (r.2 < r.1)) iv
    have hn' : ∀ (e' : Env) (h' : Hp) (k' : Nat), e' 1 = .ptr 0 0 0 → e' 4 = v4 → h' 0 = .var cs true → 16 ≤ k' → Q .nrm ⟨e', h', k'⟩ := fun e' h' k' => hn e' h' k' hb
    clear iv hr hn hb
    refine gK ?_
    refine hn' _ _ _ ?_ ?_ ?_ ?_ <;> first | (simp only [go_sem, ↓reduceIte, Nat.reduceEqDiff, Nat.reduceAdd, Nat.reduceMul, Nat.reduceSub, Nat.reduceLT, Nat.reduceLeDiff, Int.reduceEq, Int.reduceLT, Int.reduceLE, Int.reduceNeg, Int.reduceAdd, Int.reduceSub, reduceCtorEq, *]; done) | omega
theorem in38b {z : Bool} {subs : List Rx} (hl : subs.length < 2000000000000) (hc : ∀ r ∈ subs, callP (Lv xp md) 38 [.agg r.cells] = some [.int .i64 (nodeE r)]) (e : Env) (h : Hp) (k : Nat) (Q : Ex → St → Prop) (i126 : e 126 = rs z subs) (i127 : e 127 = .int .i64 subs.length) (i128 : e 128 = .int .i64 (0 : Nat)) (ik : 16 ≤ k)
    (hr : ∀ (e' : Env) (h' : Hp) (k' : Nat), e' 2 = .int .i64 (nodesE subs) → Q .ret ⟨e', h', k'⟩) (hn : ∀ (e' : Env) (h' : Hp) (k' : Nat), nodesE subs = 0 → Q .nrm ⟨e', h', k'⟩) : Rn xp md (.loop L38_1) ⟨e, h, k⟩ (Bk 3 Q) := by
  refine rn_loop (subs.length) (fun j st => st.e 126 = rs z subs ∧ st.e 127 = .int .i64 subs.length ∧ st.e 128 = .int .i64 j ∧ (∀ i y, i < j → subs[i]? = some y → nodeE y = 0) ∧ 16 ≤ st.k) (j := 0) ⟨?_, ?_, ?_, fun i x hi => by omega, ?_⟩ (Nat.zero_le _) ?_
  all_goals first | exact eA | exact eB | exact eO | exact eC | exact eD | skip
  rintro j ⟨e, h, k⟩ hj ⟨i126, i127, i128, iv, ik⟩
  dsimp only at i126 i127 i128 ik
  have n1 : ∀ c, c < 16 → (c = k) = False := fun c hc => by simp; omega
  have n2 : ∀ c, c < 16 → (k = c) = False := fun c hc => by simp; omega
  rcases nextC hj with ⟨hlt, c1⟩ | ⟨rfl, c1⟩
  · obtain ⟨x, hx⟩ := at_lt hlt
    have w1 := inc64 j (by omega)
    have s38 := hc x (List.mem_of_getElem? hx)
    have hxl := cells5 x
    have hxi := cells_im x
    have hxt : List.take 5 x.cells = x.cells := List.take_of_length_le (by omega)
    have hxf : ∀ n h, frzL (frz (n + 1)) h x.cells = some (x.cells, h) := fun n h => frzL_imG n hxi
    have hxs : List.drop 5 x.cells = [] := List.drop_eq_nil_of_le (by omega)
    have hxa : D.cells (.agg x.cells) = some x.cells := by
      cases x with
      | mk a b c d e f => rw [rx_cells]; simp only [go_sem, ↓reduceIte, Nat.reduceEqDiff, Nat.reduceAdd, Nat.reduceMul, Nat.reduceSub, Nat.reduceLT, Nat.reduceLeDiff, Int.reduceEq, Int.reduceLT, Int.reduceLE, Int.reduceNeg, Int.reduceAdd, Int.reduceSub, reduceCtorEq]
    have hxz : x.cells ++ [] = x.cells := by simp
    have no : Hid (nodeE x = 0 → ∀ i y, i < j + 1 → subs[i]? = some y → nodeE y = 0) := fun h => before_succ (p := fun y => nodeE y = 0) hx h iv
    have yes : Hid (nodeE x ≠ 0 → nodesE subs = nodeE x) := fun h => nodes_yes hx h iv
    clear iv hc
    generalize nodeE x = v at *
    cases hv : decide (v = 0) with
    | true =>
      have iv2 := (show _ → _ from no) (of_decide_eq_true hv)
      clear hr hn no yes
      refine gK ?_
      refine ⟨by omega, ?_, ?_, ?_, iv2, ?_⟩
      all_goals first | exact eC | exact eO | exact eD | skip
    | false =>
      rw [(show _ → _ from yes) (of_decide_eq_false hv)] at hr
      clear hn no yes
      refine gK ?_
      exact rn_ret (hr _ _ _ eA)
  · have hn' := fun (e' : Env) (h' : Hp) (k' : Nat) => hn e' h' k' (nodes_no iv)
    clear iv hr hn hc
    refine gK ?_
    exact hn' _ _ _
end Go.Proofs.Ytpdamhhaepcffaa.AE
/-
  regexec: which expressions are right: the program.
-/
set_option linter.unusedVariables false
set_option linter.unusedSimpArgs false
set_option maxHeartbeats 8000000
set_option maxRecDepth 100000
namespace Go.Proofs.Ytpdamhhaepcffaa.AE
open Go
theorem f38 : ∀ r : Rx, Rx.In r → callP (Lv xp md) 38 [.agg r.cells] = some [.int .i64 (nodeE r)] := by
  intro r hr
  induction hr with
  | @mk k z set mn mx subs hs hl hsub ih =>
    have key2 := in38b (z := z) hl ih
    have key1 := fun cs => in38a (cs := cs) (z := z) hs
    rw [rx_cells, nodeE]
    refine fn_v (F := F38) rfl ?_
    have key1h := key1
    clear key1 ih hsub
    generalize nodesE subs = w at *
    cases hb1 : bad1 k set.length subs.length mn mx with
    | true =>
      rw [if_pos rfl]
      have hb : Hid (bad1 k set.length subs.length mn mx = true) := hb1
      clear hb1 key2 key1h
      rcases (by omega : k < 1 ∨ 7 < k ∨ k = 1 ∨ k = 2 ∨ k = 3 ∨ k = 4 ∨ k = 5 ∨ k = 6 ∨ k = 7) with hk | hk | rfl | rfl | rfl | rfl | rfl | rfl | rfl
      · have c1 : decide (k = 1) = false := by simp; omega
        have c2 : decide (k = 2) = false := by simp; omega
        have c3 : decide (k = 3) = false := by simp; omega
        have c4 : decide (k = 4) = false := by simp; omega
        have c5 : decide (k < 1) = true := by simp; omega
        clear hb
        exact gD
      · have c1 : decide (k = 1) = false := by simp; omega
        have c2 : decide (k = 2) = false := by simp; omega
        have c3 : decide (k = 3) = false := by simp; omega
        have c4 : decide (k = 4) = false := by simp; omega
        have c5 : decide (k < 1) = false := by simp; omega
        have c6 : decide (7 < k) = true := by simp; omega
        clear hb
        exact gD
      all_goals
        repeat' (first | intro _ | ((with_reducible first | apply s_p | apply s_n); rotate_left 1; exact ev_; rfl) | (with_reducible first | apply s_zn | apply s_zb | apply rn_seq | apply rn_blk | apply w_sn | apply w_sb | apply x_b0 | apply x_nx | apply r_nx | apply r_bk | apply n_nx | apply n_bk | apply q_nx | apply q_bk) | ((with_reducible apply s_gt); rotate_left 1; exact ev_) | ((with_reducible apply s_gf); rotate_left 1; exact a0_) | ((with_reducible apply s_gu); rotate_left 1; exact ev_) | ((with_reducible apply s_cs); rotate_left 1; rfl; exact ev_; exact fv_; rfl) | ((with_reducible apply s_cv); rotate_left 1; rfl; exact ev_; exact fv_; exact a1_; exact a2_; exact tk_) | ((with_reducible apply s_vs); rotate_left 1; exact ev_; rfl; exact ev_; exact fv_; rfl) | ((with_reducible first | apply s_g1 | apply s_g0); rotate_left 2; exact ev_) | ((with_reducible first | apply w_r | apply w_d); rotate_left 1; exact a7_; exact a8_) | ((with_reducible apply w_t); rotate_left 1; exact ev_) | ((with_reducible apply w_f); rotate_left 1; exact ev_) | ((with_reducible apply w_i); rotate_left 2; exact ev_) | ((with_reducible apply x_b1); rotate_left 1; (decide)) | ((with_reducible first | apply f_q | apply f_r | apply f_n | apply g_r | apply g_n); rotate_left 1; exact a9_; exact ev_) | ((with_reducible first | apply d_p | apply d_n); rotate_left 1; exact ev_; rfl; exact a3_; exact a4_) | ((with_reducible apply d_cs); rotate_left 1; rfl; exact ev_; exact fv_; rfl; exact a5_; exact a4_) | ((with_reducible apply d_cv); rotate_left 1; rfl; exact ev_; exact fv_; exact a1_; exact a2_; exact tk_; exact a6_; exact a4_) | ((with_reducible apply d_gt); rotate_left 1; exact ev_) | ((with_reducible apply d_gf); rotate_left 1; exact a0_) | ((with_reducible apply d_gu); rotate_left 1; exact ev_) | (with_reducible first | apply d_zn | apply d_zb) | ((with_reducible first | apply d_g1 | apply d_g0); rotate_left 2; exact ev_) | exact pr_ | fail)
      all_goals
        exfalso
        have hb1 : bad1 _ set.length subs.length mn mx = true := hb
        unfold bad1 at hb1
        first | (simp_all; done) | (simp_all; omega)
    | false =>
      rw [if_neg (by simp)]
      have hb : Hid (bad1 k set.length subs.length mn mx = false) := hb1
      have hk : 1 ≤ k ∧ k ≤ 7 := by
        unfold bad1 at hb1
        simp only [Bool.or_eq_false_iff, decide_eq_false_iff_not] at hb1
        omega
      clear hb1
      have hb2 : Hid ((bad2 k mn mx = true → (if bad2 k mn mx = true then (2 : Int) else w) = 2) ∧ (bad2 k mn mx = false → (if bad2 k mn mx = true then (2 : Int) else w) = w)) := ⟨fun h => by rw [if_pos h], fun h => by rw [if_neg (by rw [h]; simp)]⟩
      generalize (if bad2 k mn mx = true then (2 : Int) else w) = w2 at *
      have key1i : Hid (∀ (cs : List D) (e : Env) (h : Hp) (k : Nat) (Q : Ex → St → Prop), e 1 = .ptr 0 0 0 → e 80 = rz z set → e 81 = .int .i64 set.length → e 82 = .int .i64 (0 : Nat) → h 0 = .var cs true → 16 ≤ k →
          (∀ (e' : Env) (h' : Hp) (k' : Nat), badR set = true → e' 2 = .int .i64 1 → Q .ret ⟨e', h', k'⟩) → (∀ (e' : Env) (h' : Hp) (k' : Nat), badR set = false → e' 1 = .ptr 0 0 0 → e' 4 = e 4 → h' 0 = .var cs true → 16 ≤ k' → Q .nrm ⟨e', h', k'⟩) → Rn xp md (.loop L38_0) ⟨e, h, k⟩ (Bk 1 Q)) := key1h
      have key2i : Hid (∀ (e : Env) (h : Hp) (k : Nat) (Q : Ex → St → Prop), e 126 = rs z subs → e 127 = .int .i64 subs.length → e 128 = .int .i64 (0 : Nat) → 16 ≤ k →
          (∀ (e' : Env) (h' : Hp) (k' : Nat), e' 2 = .int .i64 w → Q .ret ⟨e', h', k'⟩) → (∀ (e' : Env) (h' : Hp) (k' : Nat), w = 0 → Q .nrm ⟨e', h', k'⟩) → Rn xp md (.loop L38_1) ⟨e, h, k⟩ (Bk 3 Q)) := key2
      clear key1h key2
      rcases (by omega : k = 1 ∨ k = 2 ∨ k = 3 ∨ k = 4 ∨ k = 5 ∨ k = 6 ∨ k = 7) with rfl | rfl | rfl | rfl | rfl | rfl | rfl
      all_goals
        repeat' (first | intro _ | ((with_reducible first | apply s_p | apply s_n); rotate_left 1; exact ev_; rfl) | (with_reducible first | apply s_zn | apply s_zb | apply rn_seq | apply rn_blk | apply w_sn | apply w_sb | apply x_b0 | apply x_nx | apply r_nx | apply r_bk | apply n_nx | apply n_bk | apply q_nx | apply q_bk) | ((with_reducible apply s_gt); rotate_left 1; exact ev_) | ((with_reducible apply s_gf); rotate_left 1; exact a0_) | ((with_reducible apply s_gu); rotate_left 1; exact ev_) | ((with_reducible apply s_cs); rotate_left 1; rfl; exact ev_; exact fv_; rfl) | ((with_reducible apply s_cv); rotate_left 1; rfl; exact ev_; exact fv_; exact a1_; exact a2_; exact tk_) | ((with_reducible apply s_vs); rotate_left 1; exact ev_; rfl; exact ev_; exact fv_; rfl) | ((with_reducible first | apply s_g1 | apply s_g0); rotate_left 2; exact ev_) | ((with_reducible first | apply w_r | apply w_d); rotate_left 1; exact a7_; exact a8_) | ((with_reducible apply w_t); rotate_left 1; exact ev_) | ((with_reducible apply w_f); rotate_left 1; exact ev_) | ((with_reducible apply w_i); rotate_left 2; exact ev_) | ((with_reducible apply x_b1); rotate_left 1; (decide)) | ((with_reducible first | apply f_q | apply f_r | apply f_n | apply g_r | apply g_n); rotate_left 1; exact a9_; exact ev_) | ((with_reducible first | apply d_p | apply d_n); rotate_left 1; exact ev_; rfl; exact a3_; exact a4_) | ((with_reducible apply d_cs); rotate_left 1; rfl; exact ev_; exact fv_; rfl; exact a5_; exact a4_) | ((with_reducible apply d_cv); rotate_left 1; rfl; exact ev_; exact fv_; exact a1_; exact a2_; exact tk_; exact a6_; exact a4_) | ((with_reducible apply d_gt); rotate_left 1; exact ev_) | ((with_reducible apply d_gf); rotate_left 1; exact a0_) | ((with_reducible apply d_gu); rotate_left 1; exact ev_) | (with_reducible first | apply d_zn | apply d_zb) | ((with_reducible first | apply d_g1 | apply d_g0); rotate_left 2; exact ev_) | exact pr_ | fail)
      all_goals first
        | (exfalso
           have hb1 : bad1 _ set.length subs.length mn mx = false := hb
           unfold bad1 at hb1
           first | (simp_all; done) | (simp_all; omega))
        | (unfold Hid at key1i
           refine key1i _ _ _ _ _ eA eA eA eB eB (by omega) ?_ ?_
           · intro e' h' k' hbr e2
             rw [hbr, if_pos rfl]
             clear key1i key2i hb hb2
             exact gD
           · intro e' h' k' hbr e1 e4 b0 ik
             rw [hbr, if_neg (by simp)]
             simp only [go_sem, ↓reduceIte, Nat.reduceEqDiff, Nat.reduceAdd, Nat.reduceMul, Nat.reduceSub, Nat.reduceLT, Nat.reduceLeDiff, Int.reduceEq, Int.reduceLT, Int.reduceLE, Int.reduceNeg, Int.reduceAdd, Int.reduceSub, reduceCtorEq] at e4
             clear key1i hb
             have n1k' : ∀ c, c < 16 → (c = k') = False := fun c hc => by simp; omega
             have n2k' : ∀ c, c < 16 → (k' = c) = False := fun c hc => by simp; omega
             repeat' (first | intro _ | ((with_reducible first | apply s_p | apply s_n); rotate_left 1; exact ev_; rfl) | (with_reducible first | apply s_zn | apply s_zb | apply rn_seq | apply rn_blk | apply w_sn | apply w_sb | apply x_b0 | apply x_nx | apply r_nx | apply r_bk | apply n_nx | apply n_bk | apply q_nx | apply q_bk) | ((with_reducible apply s_gt); rotate_left 1; exact ev_) | ((with_reducible apply s_gf); rotate_left 1; exact a0_) | ((with_reducible apply s_gu); rotate_left 1; exact ev_) | ((with_reducible apply s_cs); rotate_left 1; rfl; exact ev_; exact fv_; rfl) | ((with_reducible apply s_cv); rotate_left 1; rfl; exact ev_; exact fv_; exact a1_; exact a2_; exact tk_) | ((with_reducible apply s_vs); rotate_left 1; exact ev_; rfl; exact ev_; exact fv_; rfl) | ((with_reducible first | apply s_g1 | apply s_g0); rotate_left 2; exact ev_) | ((with_reducible first | apply w_r | apply w_d); rotate_left 1; exact a7_; exact a8_) | ((with_reducible apply w_t); rotate_left 1; exact ev_) | ((with_reducible apply w_f); rotate_left 1; exact ev_) | ((with_reducible apply w_i); rotate_left 2; exact ev_) | ((with_reducible apply x_b1); rotate_left 1; (decide)) | ((with_reducible first | apply f_q | apply f_r | apply f_n | apply g_r | apply g_n); rotate_left 1; exact a9_; exact ev_) | ((with_reducible first | apply d_p | apply d_n); rotate_left 1; exact ev_; rfl; exact a3_; exact a4_) | ((with_reducible apply d_cs); rotate_left 1; rfl; exact ev_; exact fv_; rfl; exact a5_; exact a4_) | ((with_reducible apply d_cv); rotate_left 1; rfl; exact ev_; exact fv_; exact a1_; exact a2_; exact tk_; exact a6_; exact a4_) | ((with_reducible apply d_gt); rotate_left 1; exact ev_) | ((with_reducible apply d_gf); rotate_left 1; exact a0_) | ((with_reducible apply d_gu); rotate_left 1; exact ev_) | (with_reducible first | apply d_zn | apply d_zb) | ((with_reducible first | apply d_g1 | apply d_g0); rotate_left 2; exact ev_) | exact pr_ | fail)
             all_goals first
               | (have hq := (show _ ∧ _ from hb2).1 (by unfold bad2; first | (simp_all; done) | (simp_all; omega)); rw [hq]; done)
               | (have hq := (show _ ∧ _ from hb2).2 (by unfold bad2; first | (simp_all; done) | (simp_all; omega))
                  subst hq
                  unfold Hid at key2i
                  refine key2i _ _ _ _ eA eA eB (by omega) ?_ ?_
                  · intro e2' h2' k2' e2
                    clear key2i hb2
                    exact gD
                  · intro e2' h2' k2' hw
                    rw [hw]
                    clear key2i hb2
                    exact gD))
end Go.Proofs.Ytpdamhhaepcffaa.AE
/-
  regexec: sizes and levels; Right of the program; the reference's Size, Depth.
-/
set_option linter.unusedVariables false
set_option linter.unusedSimpArgs false
set_option maxHeartbeats 8000000
set_option maxRecDepth 100000
namespace Go.Proofs.Ytpdamhhaepcffaa.AE
open Go
mutual
def sizeE : Rx → Int × Int
  | .mk _ _ _ _ _ subs => ((sizesE subs (1, 0)).1, IntKind.i64.wrap ((sizesE subs (1, 0)).2 + 1))
def sizesE : List Rx → Int × Int → Int × Int
  | [], p => p
  | r :: q, p => sizesE q (IntKind.i64.wrap (p.1 + (sizeE r).1), max p.2 (sizeE r).2)
end
theorem sizes_snoc : ∀ (l : List Rx) (x : Rx) (p : Int × Int), sizesE (l ++ [x]) p = (IntKind.i64.wrap ((sizesE l p).1 + (sizeE x).1), max (sizesE l p).2 (sizeE x).2)
  | [], x, p => by simp [sizesE]
  | r :: q, x, p => by
    rw [List.cons_append, sizesE, sizesE]
    exact sizes_snoc q x _
theorem sizes_take {l : List Rx} {j : Nat} {x : Rx} (h : l[j]? = some x) (p : Int × Int) : sizesE (l.take (j + 1)) p = (IntKind.i64.wrap ((sizesE (l.take j) p).1 + (sizeE x).1), max (sizesE (l.take j) p).2 (sizeE x).2) := by
  rw [List.take_add_one, h]
  exact sizes_snoc _ x p
/-- What a walk needs to know of an expression that it hands on. -/
structure CellsF (x : Rx) : Prop where
  l : x.cells.length = 5
  i : x.cells.all D.im = true
  t : List.take 5 x.cells = x.cells
  d : List.drop 5 x.cells = []
  f : ∀ n h, frzL (frz (n + 1)) h x.cells = some (x.cells, h)
  c : D.cells (.agg x.cells) = some x.cells
  z : x.cells ++ [] = x.cells
theorem cellsF (x : Rx) : CellsF x := by
  have hxl := cells5 x
  have hxi := cells_im x
  refine ⟨hxl, hxi, List.take_of_length_le (by omega), List.drop_eq_nil_of_le (by omega), fun n h => frzL_imG n hxi, ?_, by simp⟩
  cases x with
  | mk a b c d e f => rw [rx_cells]; simp only [go_sem, ↓reduceIte, Nat.reduceEqDiff, Nat.reduceAdd, Nat.reduceMul, Nat.reduceSub, Nat.reduceLT, Nat.reduceLeDiff, Int.reduceEq, Int.reduceLT, Int.reduceLE, Int.reduceNeg, Int.reduceAdd, Int.reduceSub, reduceCtorEq]
theorem f39 : ∀ r : Rx, Rx.In r → callP (Lv xp md) 39 [.agg r.cells] = some [.int .i64 (sizeE r).1, .int .i64 (sizeE r).2] := by
  intro r hr
  induction hr with
  | @mk k z set mn mx subs hs hl hsub ih =>
    rw [rx_cells, sizeE]
    refine fn_v (F := F39) rfl ?_
    refine gK ?_
    refine rn_loop (subs.length) (fun j st => st.e 4 = .int .i64 (sizesE (subs.take j) (1, 0)).1 ∧ st.e 5 = .int .i64 (sizesE (subs.take j) (1, 0)).2 ∧ st.e 11 = rs z subs ∧ st.e 12 = .int .i64 subs.length ∧ st.e 13 = .int .i64 j ∧ 16 ≤ st.k) (j := 0) ⟨?_, ?_, ?_, ?_, ?_, ?_⟩ (Nat.zero_le _) ?_
    all_goals first | exact eA | exact eB | exact eO | exact eC | exact eD | skip
    rintro j ⟨e, h, k⟩ hj ⟨i4, i5, i11, i12, i13, ik⟩
    dsimp only at i4 i5 i11 i12 i13 ik
    have n1 : ∀ c, c < 16 → (c = k) = False := fun c hc => by simp; omega
    have n2 : ∀ c, c < 16 → (k = c) = False := fun c hc => by simp; omega
    rcases nextC hj with ⟨hlt, c1⟩ | ⟨rfl, c1⟩
    · obtain ⟨x, hx⟩ := at_lt hlt
      have w1 := inc64 j (by omega)
      have s39 := ih x (List.mem_of_getElem? hx)
      obtain ⟨xl, xi, xt, xd, xf, xc, xz⟩ := cellsF x
      have hta := sizes_take hx (1, 0)
      clear ih hsub
      generalize sizesE (subs.take j) (1, 0) = p at *
      generalize sizesE (subs.take (j + 1)) (1, 0) = p' at *
      subst hta
      generalize sizeE x = q at *
      refine gK ?_
      refine ⟨by omega, ?_, ?_, ?_, ?_, ?_, ?_⟩
      all_goals first | exact eC | exact eO | exact eD | skip
    · rw [List.take_length] at i4 i5
      clear ih hsub
      exact gD
def rightE (r : Rx) : Int := if decide (nodeE r = 0) then (if decide (40 < (sizeE r).1) || decide (12 < (sizeE r).2) then 4 else 0) else nodeE r
theorem f27 (r : Rx) (hr : Rx.In r) : callP (Lv xp md) 27 [.agg r.cells] = some [.int .i64 (rightE r)] := by
  refine fn_v (F := F27) rfl ?_
  have s38 := f38 r hr
  have s39 := f39 r hr
  obtain ⟨xl, xi, xt, xd, xf, xc, xz⟩ := cellsF r
  unfold rightE
  generalize nodeE r = a at *
  generalize sizeE r = p at *
  repeat' (first | intro _ | ((with_reducible first | apply s_p | apply s_n); rotate_left 1; exact ev_; rfl) | (with_reducible first | apply s_zn | apply s_zb | apply rn_seq | apply rn_blk | apply w_sn | apply w_sb | apply x_b0 | apply x_nx | apply r_nx | apply r_bk | apply n_nx | apply n_bk | apply q_nx | apply q_bk) | ((with_reducible apply s_gt); rotate_left 1; exact ev_) | ((with_reducible apply s_gf); rotate_left 1; exact a0_) | ((with_reducible apply s_gu); rotate_left 1; exact ev_) | ((with_reducible apply s_cs); rotate_left 1; rfl; exact ev_; exact fv_; rfl) | ((with_reducible apply s_cv); rotate_left 1; rfl; exact ev_; exact fv_; exact a1_; exact a2_; exact tk_) | ((with_reducible apply s_vs); rotate_left 1; exact ev_; rfl; exact ev_; exact fv_; rfl) | ((with_reducible first | apply s_g1 | apply s_g0); rotate_left 2; exact ev_) | ((with_reducible first | apply w_r | apply w_d); rotate_left 1; exact a7_; exact a8_) | ((with_reducible apply w_t); rotate_left 1; exact ev_) | ((with_reducible apply w_f); rotate_left 1; exact ev_) | ((with_reducible apply w_i); rotate_left 2; exact ev_) | ((with_reducible apply x_b1); rotate_left 1; (decide)) | ((with_reducible first | apply f_q | apply f_r | apply f_n | apply g_r | apply g_n); rotate_left 1; exact a9_; exact ev_) | ((with_reducible first | apply d_p | apply d_n); rotate_left 1; exact ev_; rfl; exact a3_; exact a4_) | ((with_reducible apply d_cs); rotate_left 1; rfl; exact ev_; exact fv_; rfl; exact a5_; exact a4_) | ((with_reducible apply d_cv); rotate_left 1; rfl; exact ev_; exact fv_; exact a1_; exact a2_; exact tk_; exact a6_; exact a4_) | ((with_reducible apply d_gt); rotate_left 1; exact ev_) | ((with_reducible apply d_gf); rotate_left 1; exact a0_) | ((with_reducible apply d_gu); rotate_left 1; exact ev_) | (with_reducible first | apply d_zn | apply d_zb) | ((with_reducible first | apply d_g1 | apply d_g0); rotate_left 2; exact ev_) | exact pr_ | fail)
  all_goals simp_all
theorem f36 : ∀ r : Rx, Rx.In r → callP (Lv xp md) 36 [.agg r.cells] = some [.int .i64 (sizeE r).1] := by
  intro r hr
  induction hr with
  | @mk k z set mn mx subs hs hl hsub ih =>
    rw [rx_cells, sizeE]
    refine fn_v (F := F36) rfl ?_
    refine gK ?_
    refine rn_loop (subs.length) (fun j st => st.e 1 = .ptr 0 0 0 ∧ st.e 3 = .int .i64 (sizesE (subs.take j) (1, 0)).1 ∧ st.e 4 = .int .i64 j ∧ st.h 0 = .var [.int .i64 k, rz z set, .int .i64 mn, .int .i64 mx, rs z subs] true ∧ 16 ≤ st.k) (j := 0) ⟨?_, ?_, ?_, ?_, ?_⟩ (Nat.zero_le _) ?_
    all_goals first | exact eA | exact eB | exact eO | exact eC | exact eD | skip
    rintro j ⟨e, h, k⟩ hj ⟨i1, i3, i4, b0, ik⟩
    dsimp only at i1 i3 i4 b0 ik
    have n1 : ∀ c, c < 16 → (c = k) = False := fun c hc => by simp; omega
    have n2 : ∀ c, c < 16 → (k = c) = False := fun c hc => by simp; omega
    rcases nextC hj with ⟨hlt, c1⟩ | ⟨rfl, c1⟩
    · obtain ⟨x, hx⟩ := at_lt hlt
      have w1 := inc64 j (by omega)
      have s36 := ih x (List.mem_of_getElem? hx)
      obtain ⟨xl, xi, xt, xd, xf, xc, xz⟩ := cellsF x
      have hta := sizes_take hx (1, 0)
      clear ih hsub
      generalize sizesE (subs.take j) (1, 0) = p at *
      generalize sizesE (subs.take (j + 1)) (1, 0) = p' at *
      subst hta
      generalize sizeE x = q at *
      refine gK ?_
      refine ⟨by omega, ?_, ?_, ?_, ?_, ?_⟩
      all_goals first | exact eC | exact eO | exact eD | skip
    · rw [List.take_length] at i3
      clear ih hsub
      exact gD
theorem f37 : ∀ r : Rx, Rx.In r → callP (Lv xp md) 37 [.agg r.cells] = some [.int .i64 (sizeE r).2] := by
  intro r hr
  induction hr with
  | @mk k z set mn mx subs hs hl hsub ih =>
    rw [rx_cells, sizeE]
    refine fn_v (F := F37) rfl ?_
    refine gK ?_
    refine rn_loop (subs.length) (fun j st => st.e 1 = .ptr 0 0 0 ∧ st.e 3 = .int .i64 (sizesE (subs.take j) (1, 0)).2 ∧ st.e 4 = .int .i64 j ∧ st.h 0 = .var [.int .i64 k, rz z set, .int .i64 mn, .int .i64 mx, rs z subs] true ∧ 16 ≤ st.k) (j := 0) ⟨?_, ?_, ?_, ?_, ?_⟩ (Nat.zero_le _) ?_
    all_goals first | exact eA | exact eB | exact eO | exact eC | exact eD | skip
    rintro j ⟨e, h, k⟩ hj ⟨i1, i3, i4, b0, ik⟩
    dsimp only at i1 i3 i4 b0 ik
    have n1 : ∀ c, c < 16 → (c = k) = False := fun c hc => by simp; omega
    have n2 : ∀ c, c < 16 → (k = c) = False := fun c hc => by simp; omega
    rcases nextC hj with ⟨hlt, c1⟩ | ⟨rfl, c1⟩
    · obtain ⟨x, hx⟩ := at_lt hlt
      have w1 := inc64 j (by omega)
      have s37 := ih x (List.mem_of_getElem? hx)
      obtain ⟨xl, xi, xt, xd, xf, xc, xz⟩ := cellsF x
      have hta := sizes_take hx (1, 0)
      clear ih hsub
      generalize sizesE (subs.take j) (1, 0) = p at *
      generalize sizesE (subs.take (j + 1)) (1, 0) = p' at *
      subst hta
      generalize sizeE x = q at *
      have hmx : (decide (p.2 < q.2) = true ∧ max p.2 q.2 = q.2) ∨ (decide (p.2 < q.2) = false ∧ max p.2 q.2 = p.2) := by
        by_cases hpq : p.2 < q.2
        · exact .inl ⟨by simpa using hpq, by omega⟩
        · exact .inr ⟨by simpa using hpq, by omega⟩
      rcases hmx with ⟨m1, m2⟩ | ⟨m1, m2⟩
      · rw [m2]
        clear m2
        refine gK ?_
        refine ⟨by omega, ?_, ?_, ?_, ?_, ?_⟩
        all_goals first | exact eC | exact eO | exact eD | skip
      · rw [m2]
        clear m2
        refine gK ?_
        refine ⟨by omega, ?_, ?_, ?_, ?_, ?_⟩
        all_goals first | exact eC | exact eO | exact eD | skip
    · rw [List.take_length] at i3
      clear ih hsub
      exact gD
end Go.Proofs.Ytpdamhhaepcffaa.AE
/-
  regexec: which expressions are right: the reference.
-/
set_option linter.unusedVariables false
set_option linter.unusedSimpArgs false
set_option maxHeartbeats 8000000
set_option maxRecDepth 100000
namespace Go.Proofs.Ytpdamhhaepcffaa.AE
open Go
theorem in54 {k0 : Int} {z : Bool} {set : List (Int × Int)} {mn mx : Int} {subs : List Rx} (hs : set.length < 100000000000000) (e : Env) (h : Hp) (k : Nat) (Q : Ex → St → Prop) (i1 : e 1 = .ptr 0 0 0) (i3 : e 3 = .int .i64 (0 : Nat)) (b0 : h 0 = .var [.int .i64 k0, rz z set, .int .i64 mn, .int .i64 mx, rs z subs] true) (ik : 16 ≤ k)
    (hr : ∀ (e' : Env) (h' : Hp) (k' : Nat), badR set = true → e' 2 = .bool false → Q .ret ⟨e', h', k'⟩) (hn : ∀ (e' : Env) (h' : Hp) (k' : Nat), badR set = false → e' 1 = .ptr 0 0 0 → h' 0 = .var [.int .i64 k0, rz z set, .int .i64 mn, .int .i64 mx, rs z subs] true → 16 ≤ k' → Q .nrm ⟨e', h', k'⟩) : Rn xp md (.loop L54_0) ⟨e, h, k⟩ (Bk 0 Q) := by
  refine rn_loop (set.length) (fun j st => st.e 1 = .ptr 0 0 0 ∧ st.e 3 = .int .i64 j ∧ st.h 0 = .var [.int .i64 k0, rz z set, .int .i64 mn, .int .i64 mx, rs z subs] true ∧ (∀ i x, i < j → set[i]? = some x → decide (x.2 < x.1) = false) ∧ 16 ≤ st.k) (j := 0) ⟨?_, ?_, ?_, fun i x hi => by omega, ?_⟩ (Nat.zero_le _) ?_
  all_goals first | exact eA | exact eB | exact eO | exact eC | exact eD | skip
  rintro j ⟨e, h, k⟩ hj ⟨i1, i3, b0, iv, ik⟩
  dsimp only at i1 i3 b0 ik
  have n1 : ∀ c, c < 16 → (c = k) = False := fun c hc => by simp; omega
  have n2 : ∀ c, c < 16 → (k = c) = False := fun c hc => by simp; omega
  rcases nextC hj with ⟨hlt, c1⟩ | ⟨rfl, c1⟩
  · obtain ⟨x, hx⟩ := at_lt hlt
    have w1 := inc64 j (by omega)
    cases hp : decide (x.2 < x.1) with
    | true =>
      have hb : badR set = true := any_yes (p := fun r : Int × Int => decide (r.2 < r.1)) hx hp
      have hr' := fun (e' : Env) (h' : Hp) (k' : Nat) => hr e' h' k' hb
      clear iv hr hn hb
      refine gK ?_
      exact rn_ret (hr' _ _ _ eA)
    | false =>
      have iv2 := before_succ (p := fun r : Int × Int => decide (r.2 < r.1) = false) hx hp iv
      clear iv hr hn
      refine gK ?_
      refine ⟨by omega, ?_, ?_, ?_, iv2, ?_⟩
      all_goals first | exact eC | exact eO | exact eD | skip
  · have hb : badR set = false := any_no (p := fun r : Int × Int => decide (r.2 < r.1)) iv
    have hn' := fun (e' : Env) (h' : Hp) (k' : Nat) => hn e' h' k' hb
    clear iv hr hn hb
    refine gK ?_
    refine hn' _ _ _ ?_ ?_ ?_ <;> first | (simp only [go_sem, ↓reduceIte, Nat.reduceEqDiff, Nat.reduceAdd, Nat.reduceMul, Nat.reduceSub, Nat.reduceLT, Nat.reduceLeDiff, Int.reduceEq, Int.reduceLT, Int.reduceLE, Int.reduceNeg, Int.reduceAdd, Int.reduceSub, reduceCtorEq, *]; done) | omega
theorem f54 (k : Int) (z : Bool) (set : List (Int × Int)) (mn mx : Int) (subs : List Rx) (hs : set.length < 100000000000000) (hl : subs.length < 2000000000000) : callP (Lv xp md) 54 [.agg [.int .i64 k, rz z set, .int .i64 mn, .int .i64 mx, rs z subs]] = some [.bool (!bad1 k set.length subs.length mn mx && !badR set)] := by
  refine fn_v (F := F54) rfl ?_
  have key := fun (e : Env) (h : Hp) (k' : Nat) => in54 (k0 := k) (z := z) (mn := mn) (mx := mx) (subs := subs) hs e h k'
  have r1 : badR set = true → (!bad1 k set.length subs.length mn mx && !badR set) = false := fun h => by rw [h]; simp
  have r2 : badR set = false → (!bad1 k set.length subs.length mn mx && !badR set) = !bad1 k set.length subs.length mn mx := fun h => by rw [h]; simp
  have r3 : bad1 k set.length subs.length mn mx = true → (!bad1 k set.length subs.length mn mx && !badR set) = false := fun h => by rw [h]; simp
  have rh : Hid ((badR set = true → (!bad1 k set.length subs.length mn mx && !badR set) = false) ∧ (badR set = false → (!bad1 k set.length subs.length mn mx && !badR set) = !bad1 k set.length subs.length mn mx) ∧ (bad1 k set.length subs.length mn mx = true → (!bad1 k set.length subs.length mn mx && !badR set) = false)) := ⟨r1, r2, r3⟩
  clear r1 r2 r3
  generalize (!bad1 k set.length subs.length mn mx && !badR set) = res at *
  have hset : (decide ((set.length : Int) = 0) = true ∧ decide ((0 : Int) < set.length) = false) ∨ (decide ((set.length : Int) = 0) = false ∧ decide ((0 : Int) < set.length) = true) := by
    by_cases h0 : set.length = 0
    · exact .inl ⟨decide_eq_true (by omega), decide_eq_false (by omega)⟩
    · exact .inr ⟨decide_eq_false (by omega), decide_eq_true (by omega)⟩
  have hsub : (decide ((subs.length : Int) = 0) = true ∧ decide ((0 : Int) < subs.length) = false ∧ decide ((subs.length : Int) = 1) = false ∧ decide ((subs.length : Int) < 2) = true ∧ decide ((2 : Int) ≤ subs.length) = false) ∨
      (decide ((subs.length : Int) = 0) = false ∧ decide ((0 : Int) < subs.length) = true ∧ decide ((subs.length : Int) = 1) = true ∧ decide ((subs.length : Int) < 2) = true ∧ decide ((2 : Int) ≤ subs.length) = false) ∨
      (decide ((subs.length : Int) = 0) = false ∧ decide ((0 : Int) < subs.length) = true ∧ decide ((subs.length : Int) = 1) = false ∧ decide ((subs.length : Int) < 2) = false ∧ decide ((2 : Int) ≤ subs.length) = true) := by
    rcases (by omega : subs.length = 0 ∨ subs.length = 1 ∨ 2 ≤ subs.length) with h | h | h
    · exact .inl ⟨decide_eq_true (by omega), decide_eq_false (by omega), decide_eq_false (by omega), decide_eq_true (by omega), decide_eq_false (by omega)⟩
    · exact .inr (.inl ⟨decide_eq_false (by omega), decide_eq_true (by omega), decide_eq_true (by omega), decide_eq_true (by omega), decide_eq_false (by omega)⟩)
    · exact .inr (.inr ⟨decide_eq_false (by omega), decide_eq_true (by omega), decide_eq_false (by omega), decide_eq_false (by omega), decide_eq_true (by omega)⟩)
  have hbd : bad1 k set.length subs.length mn mx = ((decide (k < 1) || decide (7 < k)) || (decide (decide (k = 1) = decide ((set.length : Int) = 0)) || ((decide (k = 4) && !decide ((subs.length : Int) = 1)) || ((decide (k = 3) && decide ((subs.length : Int) < 2)) || ((!(decide (k = 4) || decide (k = 2) || decide (k = 3)) && decide ((0 : Int) < subs.length)) || (!decide (k = 4) && (!decide (mn = 0) || !decide (mx = 0)))))))) := rfl
  have hbh : Hid (bad1 k set.length subs.length mn mx = ((decide (k < 1) || decide (7 < k)) || (decide (decide (k = 1) = decide ((set.length : Int) = 0)) || ((decide (k = 4) && !decide ((subs.length : Int) = 1)) || ((decide (k = 3) && decide ((subs.length : Int) < 2)) || ((!(decide (k = 4) || decide (k = 2) || decide (k = 3)) && decide ((0 : Int) < subs.length)) || (!decide (k = 4) && (!decide (mn = 0) || !decide (mx = 0))))))))) := hbd
  clear hbd
  generalize bad1 k set.length subs.length mn mx = bd at *
  generalize hn0 : decide (mn = 0) = m0 at *
  generalize hx0 : decide (mx = 0) = x0 at *
  obtain ⟨a0, ha0⟩ : ∃ a, decide ((set.length : Int) = 0) = a := ⟨_, rfl⟩
  have keyh : Hid (∀ (e : Env) (h : Hp) (k' : Nat) (Q : Ex → St → Prop), e 1 = .ptr 0 0 0 → e 3 = .int .i64 (0 : Nat) → h 0 = .var [.int .i64 k, rz z set, .int .i64 mn, .int .i64 mx, rs z subs] true → 16 ≤ k' →
    (∀ (e' : Env) (h' : Hp) (k' : Nat), badR set = true → e' 2 = .bool false → Q .ret ⟨e', h', k'⟩) → (∀ (e' : Env) (h' : Hp) (k' : Nat), badR set = false → e' 1 = .ptr 0 0 0 → h' 0 = .var [.int .i64 k, rz z set, .int .i64 mn, .int .i64 mx, rs z subs] true → 16 ≤ k' → Q .nrm ⟨e', h', k'⟩) → Rn xp md (.loop L54_0) ⟨e, h, k'⟩ (Bk 0 Q)) := key
  clear key ha0 a0
  have key2 : ∀ (e : Env) (h : Hp) (k' : Nat), True := fun _ _ _ => trivial
  clear key2
  rcases (by omega : k < 1 ∨ 7 < k ∨ k = 1 ∨ k = 2 ∨ k = 3 ∨ k = 4 ∨ k = 5 ∨ k = 6 ∨ k = 7) with hk | hk | rfl | rfl | rfl | rfl | rfl | rfl | rfl
  · have c5 : decide (k < 1) = true := by simp; omega
    have hb1 : bd = true := by rw [show bd = _ from hbh, c5]; rfl
    have hq := (show _ ∧ _ ∧ _ from rh).2.2 hb1
    subst hq
    clear hbh rh keyh hset hsub
    exact gD
  · have c5 : decide (k < 1) = false := by simp; omega
    have c6 : decide (7 < k) = true := by simp; omega
    have hb1 : bd = true := by rw [show bd = _ from hbh, c5, c6]; rfl
    have hq := (show _ ∧ _ ∧ _ from rh).2.2 hb1
    subst hq
    clear hbh rh keyh hset hsub
    exact gD
  all_goals
    rcases hset with ⟨s1, s2⟩ | ⟨s1, s2⟩
  all_goals
    have hbd : bd = _ := hbh
    rw [s1] at hbd
    have tf : decide (true = false) = false := rfl
    have ft : decide (false = true) = false := rfl
    have tt : decide (true = true) = true := rfl
    have ff : decide (false = false) = true := rfl
    have hbi : Hid (bd = _) := hbd
    clear hbd hbh
    refine gK ?_
  all_goals first
    | (have hb1 : bd = true := by rw [show bd = _ from hbi]; rfl
       have hq := (show _ ∧ _ ∧ _ from rh).2.2 hb1
       rw [hq]; done)
    | (unfold Hid at keyh
       refine keyh _ _ _ _ eA eB eA (by omega) ?_ ?_
       · intro e' h' k' hbr e2
         rw [(show _ ∧ _ ∧ _ from rh).1 hbr]
         clear keyh rh hbi hsub
         exact gD
       · intro e' h' k' hbr e1 b0 ik
         rw [(show _ ∧ _ ∧ _ from rh).2.1 hbr]
         clear keyh rh
         have n1k' : ∀ c, c < 16 → (c = k') = False := fun c hc => by simp; omega
         have n2k' : ∀ c, c < 16 → (k' = c) = False := fun c hc => by simp; omega
         rcases hsub with ⟨q1, q2, q3, q4, q5⟩ | ⟨q1, q2, q3, q4, q5⟩ | ⟨q1, q2, q3, q4, q5⟩
         all_goals
           cases m0 <;> cases x0
         all_goals
           have hbd : bd = _ := hbi
           rw [q2, q3, q4] at hbd
           have hbi2 : Hid (bd = _) := hbd
           clear hbd hbi
           refine gK ?_
         all_goals
           (rw [show bd = _ from hbi2]; rfl))
end Go.Proofs.Ytpdamhhaepcffaa.AE
/-
  regexec: which expressions are right: the reference; right ones are Ok.
-/
set_option linter.unusedVariables false
set_option linter.unusedSimpArgs false
set_option maxHeartbeats 8000000
set_option maxRecDepth 100000
namespace Go.Proofs.Ytpdamhhaepcffaa.AE
open Go
theorem in35 {k0 : Int} {z : Bool} {set : List (Int × Int)} {mn mx : Int} {subs : List Rx} (hl : subs.length < 2000000000000) (hc : ∀ r ∈ subs, callP (Lv xp md) 35 [.agg r.cells] = some [.int .i64 (nodeE r)]) (e : Env) (h : Hp) (k : Nat) (Q : Ex → St → Prop) (i1 : e 1 = .ptr 0 0 0) (i3 : e 3 = .int .i64 (0 : Nat)) (b0 : h 0 = .var [.int .i64 k0, rz z set, .int .i64 mn, .int .i64 mx, rs z subs] true) (ik : 16 ≤ k)
    (hr : ∀ (e' : Env) (h' : Hp) (k' : Nat), e' 2 = .int .i64 (nodesE subs) → Q .ret ⟨e', h', k'⟩) (hn : ∀ (e' : Env) (h' : Hp) (k' : Nat), nodesE subs = 0 → Q .nrm ⟨e', h', k'⟩) : Rn xp md (.loop L35_0) ⟨e, h, k⟩ (Bk 0 Q) := by
  refine rn_loop (subs.length) (fun j st => st.e 1 = .ptr 0 0 0 ∧ st.e 3 = .int .i64 j ∧ st.h 0 = .var [.int .i64 k0, rz z set, .int .i64 mn, .int .i64 mx, rs z subs] true ∧ (∀ i y, i < j → subs[i]? = some y → nodeE y = 0) ∧ 16 ≤ st.k) (j := 0) ⟨?_, ?_, ?_, fun i x hi => by omega, ?_⟩ (Nat.zero_le _) ?_
  all_goals first | exact eA | exact eB | exact eO | exact eC | exact eD | skip
  rintro j ⟨e, h, k⟩ hj ⟨i1, i3, b0, iv, ik⟩
  dsimp only at i1 i3 b0 ik
  have n1 : ∀ c, c < 16 → (c = k) = False := fun c hc => by simp; omega
  have n2 : ∀ c, c < 16 → (k = c) = False := fun c hc => by simp; omega
  rcases nextC hj with ⟨hlt, c1⟩ | ⟨rfl, c1⟩
  · obtain ⟨x, hx⟩ := at_lt hlt
    have w1 := inc64 j (by omega)
    have s35 := hc x (List.mem_of_getElem? hx)
    obtain ⟨xl, xi, xt, xd, xf, xc, xz⟩ := cellsF x
    have no : Hid (nodeE x = 0 → ∀ i y, i < j + 1 → subs[i]? = some y → nodeE y = 0) := fun h => before_succ (p := fun y => nodeE y = 0) hx h iv
    have yes : Hid (nodeE x ≠ 0 → nodesE subs = nodeE x) := fun h => nodes_yes hx h iv
    clear iv hc
    generalize nodeE x = v at *
    cases hv : decide (v = 0) with
    | true =>
      have iv2 := (show _ → _ from no) (of_decide_eq_true hv)
      clear hr hn no yes
      refine gK ?_
      refine ⟨by omega, ?_, ?_, ?_, iv2, ?_⟩
      all_goals first | exact eC | exact eO | exact eD | skip
    | false =>
      rw [(show _ → _ from yes) (of_decide_eq_false hv)] at hr
      clear hn no yes
      refine gK ?_
      exact rn_ret (hr _ _ _ eA)
  · have hn' := fun (e' : Env) (h' : Hp) (k' : Nat) => hn e' h' k' (nodes_no iv)
    clear iv hr hn hc
    refine gK ?_
    exact hn' _ _ _
theorem f35 : ∀ r : Rx, Rx.In r → callP (Lv xp md) 35 [.agg r.cells] = some [.int .i64 (nodeE r)] := by
  intro r hr
  induction hr with
  | @mk k z set mn mx subs hs hl hsub ih =>
    have key := fun (e : Env) (h : Hp) (k' : Nat) => in35 (k0 := k) (z := z) (set := set) (mn := mn) (mx := mx) hl ih e h k'
    have s54 := f54 k z set mn mx subs hs hl
    rw [rx_cells, nodeE]
    refine fn_v (F := F35) rfl ?_
    have hif : (if bad1 k set.length subs.length mn mx = true then (1 : Int) else if badR set = true then 1 else if bad2 k mn mx = true then 2 else nodesE subs) = if (!bad1 k set.length subs.length mn mx && !badR set) = true then (if bad2 k mn mx = true then 2 else nodesE subs) else 1 := by
      cases bad1 k set.length subs.length mn mx <;> cases badR set <;> rfl
    rw [hif]
    clear hif ih hsub
    generalize (!bad1 k set.length subs.length mn mx && !badR set) = ok at *
    cases ok with
    | false =>
      rw [if_neg (by simp)]
      clear key
      exact gD
    | true =>
      rw [if_pos rfl]
      have hb2 : Hid ((bad2 k mn mx = true → (if bad2 k mn mx = true then (2 : Int) else nodesE subs) = 2) ∧ (bad2 k mn mx = false → (if bad2 k mn mx = true then (2 : Int) else nodesE subs) = nodesE subs)) := ⟨fun h => by rw [if_pos h], fun h => by rw [if_neg (by rw [h]; simp)]⟩
      generalize (if bad2 k mn mx = true then (2 : Int) else nodesE subs) = w2 at *
      generalize nodesE subs = w at *
      have keyh : Hid (∀ (e : Env) (h : Hp) (k' : Nat) (Q : Ex → St → Prop), e 1 = .ptr 0 0 0 → e 3 = .int .i64 (0 : Nat) → h 0 = .var [.int .i64 k, rz z set, .int .i64 mn, .int .i64 mx, rs z subs] true → 16 ≤ k' →
        (∀ (e' : Env) (h' : Hp) (k' : Nat), e' 2 = .int .i64 w → Q .ret ⟨e', h', k'⟩) → (∀ (e' : Env) (h' : Hp) (k' : Nat), w = 0 → Q .nrm ⟨e', h', k'⟩) → Rn xp md (.loop L35_0) ⟨e, h, k'⟩ (Bk 0 Q)) := key
      clear key
      repeat' (first | intro _ | ((with_reducible first | apply s_p | apply s_n); rotate_left 1; exact ev_; rfl) | (with_reducible first | apply s_zn | apply s_zb | apply rn_seq | apply rn_blk | apply w_sn | apply w_sb | apply x_b0 | apply x_nx | apply r_nx | apply r_bk | apply n_nx | apply n_bk | apply q_nx | apply q_bk) | ((with_reducible apply s_gt); rotate_left 1; exact ev_) | ((with_reducible apply s_gf); rotate_left 1; exact a0_) | ((with_reducible apply s_gu); rotate_left 1; exact ev_) | ((with_reducible apply s_cs); rotate_left 1; rfl; exact ev_; exact fv_; rfl) | ((with_reducible apply s_cv); rotate_left 1; rfl; exact ev_; exact fv_; exact a1_; exact a2_; exact tk_) | ((with_reducible apply s_vs); rotate_left 1; exact ev_; rfl; exact ev_; exact fv_; rfl) | ((with_reducible first | apply s_g1 | apply s_g0); rotate_left 2; exact ev_) | ((with_reducible first | apply w_r | apply w_d); rotate_left 1; exact a7_; exact a8_) | ((with_reducible apply w_t); rotate_left 1; exact ev_) | ((with_reducible apply w_f); rotate_left 1; exact ev_) | ((with_reducible apply w_i); rotate_left 2; exact ev_) | ((with_reducible apply x_b1); rotate_left 1; (decide)) | ((with_reducible first | apply f_q | apply f_r | apply f_n | apply g_r | apply g_n); rotate_left 1; exact a9_; exact ev_) | ((with_reducible first | apply d_p | apply d_n); rotate_left 1; exact ev_; rfl; exact a3_; exact a4_) | ((with_reducible apply d_cs); rotate_left 1; rfl; exact ev_; exact fv_; rfl; exact a5_; exact a4_) | ((with_reducible apply d_cv); rotate_left 1; rfl; exact ev_; exact fv_; exact a1_; exact a2_; exact tk_; exact a6_; exact a4_) | ((with_reducible apply d_gt); rotate_left 1; exact ev_) | ((with_reducible apply d_gf); rotate_left 1; exact a0_) | ((with_reducible apply d_gu); rotate_left 1; exact ev_) | (with_reducible first | apply d_zn | apply d_zb) | ((with_reducible first | apply d_g1 | apply d_g0); rotate_left 2; exact ev_) | exact pr_ | fail)
      all_goals first
        | (have hq := (show _ ∧ _ from hb2).1 (by unfold bad2; first | (simp_all; done) | (simp_all; omega)); rw [hq]; done)
        | (have hq := (show _ ∧ _ from hb2).2 (by unfold bad2; first | (simp_all; done) | (simp_all; omega))
           subst hq
           unfold Hid at keyh
           refine keyh _ _ _ _ eA eB eA (by omega) ?_ ?_
           · intro e2' h2' k2' e2
             clear keyh hb2
             exact gD
           · intro e2' h2' k2' hw
             rw [hw]
             clear keyh hb2
             exact gD)
theorem f24 (r : Rx) (hr : Rx.In r) : callP (Lv xp md) 24 [.agg r.cells] = some [.int .i64 (rightE r)] := by
  refine fn_v (F := F24) rfl ?_
  have s35 := f35 r hr
  have s36 := f36 r hr
  have s37 := f37 r hr
  obtain ⟨xl, xi, xt, xd, xf, xc, xz⟩ := cellsF r
  unfold rightE
  generalize nodeE r = a at *
  generalize sizeE r = p at *
  repeat' (first | intro _ | ((with_reducible first | apply s_p | apply s_n); rotate_left 1; exact ev_; rfl) | (with_reducible first | apply s_zn | apply s_zb | apply rn_seq | apply rn_blk | apply w_sn | apply w_sb | apply x_b0 | apply x_nx | apply r_nx | apply r_bk | apply n_nx | apply n_bk | apply q_nx | apply q_bk) | ((with_reducible apply s_gt); rotate_left 1; exact ev_) | ((with_reducible apply s_gf); rotate_left 1; exact a0_) | ((with_reducible apply s_gu); rotate_left 1; exact ev_) | ((with_reducible apply s_cs); rotate_left 1; rfl; exact ev_; exact fv_; rfl) | ((with_reducible apply s_cv); rotate_left 1; rfl; exact ev_; exact fv_; exact a1_; exact a2_; exact tk_) | ((with_reducible apply s_vs); rotate_left 1; exact ev_; rfl; exact ev_; exact fv_; rfl) | ((with_reducible first | apply s_g1 | apply s_g0); rotate_left 2; exact ev_) | ((with_reducible first | apply w_r | apply w_d); rotate_left 1; exact a7_; exact a8_) | ((with_reducible apply w_t); rotate_left 1; exact ev_) | ((with_reducible apply w_f); rotate_left 1; exact ev_) | ((with_reducible apply w_i); rotate_left 2; exact ev_) | ((with_reducible apply x_b1); rotate_left 1; (decide)) | ((with_reducible first | apply f_q | apply f_r | apply f_n | apply g_r | apply g_n); rotate_left 1; exact a9_; exact ev_) | ((with_reducible first | apply d_p | apply d_n); rotate_left 1; exact ev_; rfl; exact a3_; exact a4_) | ((with_reducible apply d_cs); rotate_left 1; rfl; exact ev_; exact fv_; rfl; exact a5_; exact a4_) | ((with_reducible apply d_cv); rotate_left 1; rfl; exact ev_; exact fv_; exact a1_; exact a2_; exact tk_; exact a6_; exact a4_) | ((with_reducible apply d_gt); rotate_left 1; exact ev_) | ((with_reducible apply d_gf); rotate_left 1; exact a0_) | ((with_reducible apply d_gu); rotate_left 1; exact ev_) | (with_reducible first | apply d_zn | apply d_zb) | ((with_reducible first | apply d_g1 | apply d_g0); rotate_left 2; exact ev_) | exact pr_ | fail)
  all_goals simp_all
theorem ok_in : ∀ r : Rx, Rx.In r → nodeE r = 0 → Rx.Ok r := by
  intro r hr
  induction hr with
  | @mk k z set mn mx subs hs hl hsub ih =>
    intro h
    rw [nodeE] at h
    split at h
    · cases h
    rename_i h1
    split at h
    · cases h
    split at h
    · cases h
    rename_i h2
    have h1 : bad1 k set.length subs.length mn mx = false := by simpa using h1
    have h2 : bad2 k mn mx = false := by simpa using h2
    unfold bad1 at h1
    unfold bad2 at h2
    simp only [Bool.or_eq_false_iff, decide_eq_false_iff_not] at h1
    refine .mk ⟨by omega, by omega⟩ hs hl ?_ (fun r hr => ih r hr (nodes_all h r hr))
    rintro rfl
    have h3 := h1.2.2.1
    simp at h2 h3
    refine ⟨by omega, h2.1.1, h2.1.2, ?_⟩
    have h4 := h2.2
    omega
theorem ok_of (r : Rx) (hr : Rx.In r) (h : rightE r = 0) : Rx.Ok r := by
  refine ok_in r hr ?_
  unfold rightE at h
  split at h
  · rename_i h0
    exact of_decide_eq_true h0
  · exact h
end Go.Proofs.Ytpdamhhaepcffaa.AE
/-
  regexec: the reference's step: a sequence, an alternative, what is one offset long or none.
-/
set_option linter.unusedVariables false
set_option linter.unusedSimpArgs false
set_option maxHeartbeats 8000000
set_option maxRecDepth 100000
namespace Go.Proofs.Ytpdamhhaepcffaa.AE
open Go
theorem frzC {x : Rx} {s : ByteArray} {h h1 : Hp} {v : D} {A : List Bool} (hv : frz (8 + 1) h v = some (.isl (bl A), h1)) : frzL (fun h d => frz 9 h d) h [.agg x.cells, .str s, v] = some ([.agg x.cells, .str s, .isl (bl A)], h1) := by
  have hc : frz (8 + 1) h (.agg x.cells) = some (.agg x.cells, h) := by
    rw [frz_agg, (cellsF x).f 7 h]
    rfl
  rw [frzL_cons]
  show ((frz (8 + 1) h (.agg x.cells)).bind _) = _
  rw [hc, Option.bind_some]
  show ((frzL (fun h d => frz 9 h d) h [.str s, v]).bind _) = _
  rw [frzL_cons]
  show (((some (D.str s, h)).bind _).bind _) = _
  rw [Option.bind_some]
  show (((frzL (fun h d => frz 9 h d) h [v]).bind _).bind _) = _
  rw [frz1 (caps := []) hv rfl]
  rfl
/-- What the reference's step yields. -/
def Stp (s : ByteArray) (r : Rx) : Prop := ∀ A : List Bool, A.length = s.size + 1 → ∃ q, callP (Lv xp md) 31 [.agg r.cells, .str s, .isl (bl A)] = some [q] ∧ IsSet q (img (s.size + 1) (r.R s) A)
theorem in31a {s : ByteArray} {k0 : Int} {z : Bool} {set : List (Int × Int)} {mn mx : Int} {subs : List Rx} (hl : subs.length < 2000000000000) (hst : ∀ r ∈ subs, Stp s r) {A : List Bool} (hA : A.length = s.size + 1) (e : Env) (h : Hp) (k : Nat) (Q : Ex → St → Prop) (i1 : e 1 = .str s) (i3 : e 3 = .ptr 0 0 0) (hS : SV h k (e 7) A) (i8 : e 8 = .int .i64 (0 : Nat)) (b0 : h 0 = .var [.int .i64 k0, rz z set, .int .i64 mn, .int .i64 mx, rs z subs] true) (ik : 16 ≤ k)
    (hn : ∀ (e' : Env) (h' : Hp) (k' : Nat), SV h' k' (e' 7) (seqI (s.size + 1) (subs.map fun r => r.R s) A) → Q .nrm ⟨e', h', k'⟩) : Rn xp md (.loop L31_0) ⟨e, h, k⟩ (Bk 1 Q) := by
  generalize hRs : (subs.map fun r => r.R s) = Rs at *
  have hRl : Rs.length = subs.length := by rw [← hRs]; simp
  have hRat : ∀ (j : Nat) (x : Rx), subs[j]? = some x → Rs[j]? = some (x.R s) := fun j x hx => by rw [← hRs, List.getElem?_map, hx]; rfl
  refine rn_loop subs.length (fun j st => st.e 1 = .str s ∧ st.e 3 = .ptr 0 0 0 ∧ st.e 8 = .int .i64 j ∧ st.h 0 = .var [.int .i64 k0, rz z set, .int .i64 mn, .int .i64 mx, rs z subs] true ∧ 16 ≤ st.k ∧ SV st.h st.k (st.e 7) (seqI (s.size + 1) (Rs.take j) A)) (j := 0) ⟨i1, i3, i8, b0, ik, hS⟩ (Nat.zero_le _) ?_
  clear i1 i3 i8 b0 ik hS e h k
  rintro j ⟨e, h, k⟩ hj ⟨i1, i3, i8, b0, ik, hS⟩
  dsimp only at i1 i3 i8 b0 ik hS
  rcases nextC hj with ⟨hlt, c1⟩ | ⟨rfl, c1⟩
  · obtain ⟨x, hx⟩ := at_lt hlt
    have hR := hRat j x hx
    have w1 := inc64 j (by omega)
    have hX := hst x (List.mem_of_getElem? hx)
    obtain ⟨xl, xi, xt, xd, xf, xc, xz⟩ := cellsF x
    have hXl : (seqI (s.size + 1) (Rs.take j) A).length = s.size + 1 := seqI_len hA
    have hta := seqI_take (n := s.size + 1) (A := A) hR
    generalize seqI (s.size + 1) (Rs.take j) A = X at *
    obtain ⟨h1, q1, f1⟩ := hS.frz
    obtain ⟨r0, hc, hs⟩ := hX X hXl
    have hch : Hid (_) := hc
    have hz := frzC (x := x) (s := s) q1
    generalize e7 : e 7 = v0 at *
    clear hst hn hRs hRat hR hS hc
    refine gK ?_
    refine s_st (h1 := h1) (r0 := r0) rfl ?_ f1 hch hs ?_
    · simp only [go_sem, ↓reduceIte, Nat.reduceEqDiff, Nat.reduceAdd, Nat.reduceMul, Nat.reduceSub, Nat.reduceLT, Nat.reduceLeDiff, Int.reduceEq, Int.reduceLT, Int.reduceLE, Int.reduceNeg, Int.reduceAdd, Int.reduceSub, reduceCtorEq, e7, i1]; exact hz
    intro v2 h2 hv2 hk2
    have b2 := hk2.var b0 (by omega)
    clear hz q1 f1 hk2 b0
    refine gK ?_
    refine ⟨hlt, ?_, ?_, ?_, ?_, ?_, ?_⟩
    · simp only [go_sem, ↓reduceIte, Nat.reduceEqDiff, Nat.reduceAdd, Nat.reduceMul, Nat.reduceSub, Nat.reduceLT, Nat.reduceLeDiff, Int.reduceEq, Int.reduceLT, Int.reduceLE, Int.reduceNeg, Int.reduceAdd, Int.reduceSub, reduceCtorEq, i1]
    · simp only [go_sem, ↓reduceIte, Nat.reduceEqDiff, Nat.reduceAdd, Nat.reduceMul, Nat.reduceSub, Nat.reduceLT, Nat.reduceLeDiff, Int.reduceEq, Int.reduceLT, Int.reduceLE, Int.reduceNeg, Int.reduceAdd, Int.reduceSub, reduceCtorEq, i3]
    · simp only [go_sem, ↓reduceIte, Nat.reduceEqDiff, Nat.reduceAdd, Nat.reduceMul, Nat.reduceSub, Nat.reduceLT, Nat.reduceLeDiff, Int.reduceEq, Int.reduceLT, Int.reduceLE, Int.reduceNeg, Int.reduceAdd, Int.reduceSub, reduceCtorEq]
    · exact b2
    · simp only; omega
    · rw [hta]
      simp only [go_sem, ↓reduceIte, Nat.reduceEqDiff, Nat.reduceAdd, Nat.reduceMul, Nat.reduceSub, Nat.reduceLT, Nat.reduceLeDiff, Int.reduceEq, Int.reduceLT, Int.reduceLE, Int.reduceNeg, Int.reduceAdd, Int.reduceSub, reduceCtorEq]
      exact hv2.up (by (try simp only); omega)
  · have hta : Rs.take subs.length = Rs := List.take_of_length_le (by omega)
    rw [hta] at hS
    have hn' := fun (e' : Env) (h' : Hp) (k' : Nat) => hn e' h' k'
    have hSh : Hid (_) := hS
    generalize e7 : e 7 = v7 at *
    clear hst hn hRat hS hRs
    refine gK ?_
    refine hn' _ _ _ ?_
    simp only [go_sem, ↓reduceIte, Nat.reduceEqDiff, Nat.reduceAdd, Nat.reduceMul, Nat.reduceSub, Nat.reduceLT, Nat.reduceLeDiff, Int.reduceEq, Int.reduceLT, Int.reduceLE, Int.reduceNeg, Int.reduceAdd, Int.reduceSub, reduceCtorEq, e7]
    exact (show SV _ _ _ _ from hSh).up (by omega)
theorem in31b {s : ByteArray} (hs : s.size ≤ 500) {k0 : Int} {z : Bool} {set : List (Int × Int)} {mn mx : Int} {subs : List Rx} (hl : subs.length < 2000000000000) (hst : ∀ r ∈ subs, Stp s r) {A : List Bool} (hA : A.length = s.size + 1) (e : Env) (h : Hp) (k : Nat) (Q : Ex → St → Prop) (i1 : e 1 = .str s) (i2 : e 2 = .isl (bl A)) (i3 : e 3 = .ptr 0 0 0) (hS : SV h k (e 9) (non (s.size + 1))) (i10 : e 10 = .int .i64 (0 : Nat)) (b0 : h 0 = .var [.int .i64 k0, rz z set, .int .i64 mn, .int .i64 mx, rs z subs] true) (ik : 16 ≤ k)
    (hn : ∀ (e' : Env) (h' : Hp) (k' : Nat), SV h' k' (e' 9) (altI (s.size + 1) (subs.map fun r => r.R s) A) → Q .nrm ⟨e', h', k'⟩) : Rn xp md (.loop L31_1) ⟨e, h, k⟩ (Bk 3 Q) := by
  generalize hRs : (subs.map fun r => r.R s) = Rs at *
  have hRl : Rs.length = subs.length := by rw [← hRs]; simp
  have hRat : ∀ (j : Nat) (x : Rx), subs[j]? = some x → Rs[j]? = some (x.R s) := fun j x hx => by rw [← hRs, List.getElem?_map, hx]; rfl
  refine rn_loop subs.length (fun j st => st.e 1 = .str s ∧ st.e 2 = .isl (bl A) ∧ st.e 3 = .ptr 0 0 0 ∧ st.e 10 = .int .i64 j ∧ st.h 0 = .var [.int .i64 k0, rz z set, .int .i64 mn, .int .i64 mx, rs z subs] true ∧ 16 ≤ st.k ∧ SV st.h st.k (st.e 9) (altI (s.size + 1) (Rs.take j) A)) (j := 0) ⟨i1, i2, i3, i10, b0, ik, hS⟩ (Nat.zero_le _) ?_
  clear i1 i2 i3 i10 b0 ik hS e h k
  rintro j ⟨e, h, k⟩ hj ⟨i1, i2, i3, i10, b0, ik, hS⟩
  dsimp only at i1 i2 i3 i10 b0 ik hS
  rcases nextC hj with ⟨hlt, c1⟩ | ⟨rfl, c1⟩
  · obtain ⟨x, hx⟩ := at_lt hlt
    have hR := hRat j x hx
    have w1 := inc64 j (by omega)
    have hX := hst x (List.mem_of_getElem? hx)
    obtain ⟨xl, xi, xt, xd, xf, xc, xz⟩ := cellsF x
    have hXl : (altI (s.size + 1) (Rs.take j) A).length = s.size + 1 := altI_len _ _ (non_len _)
    have hta := altI_take (n := s.size + 1) (A := A) hR
    generalize altI (s.size + 1) (Rs.take j) A = X at *
    obtain ⟨r0, hc, hs0⟩ := hX A hA
    have hch : Hid (_) := hc
    have hz := frzC (x := x) (s := s) (h := h) (h1 := h) (v := .isl (bl A)) (A := A) rfl
    have hor : Hid (_) := f50 X (img (s.size + 1) (x.R s) A) (by omega) (by intro he; rw [he] at hXl; simp at hXl) (by rw [img_len, hXl])
    generalize e9 : e 9 = v0 at *
    clear hst hn hRs hRat hR hc
    refine gK ?_
    refine s_st (h1 := h) (r0 := r0) rfl ?_ (.refl h) hch hs0 ?_
    · simp only [go_sem, ↓reduceIte, Nat.reduceEqDiff, Nat.reduceAdd, Nat.reduceMul, Nat.reduceSub, Nat.reduceLT, Nat.reduceLeDiff, Int.reduceEq, Int.reduceLT, Int.reduceLE, Int.reduceNeg, Int.reduceAdd, Int.reduceSub, reduceCtorEq, i1, i2]; exact hz
    intro v2 h2 hv2 hk2
    have b2 := hk2.var b0 (by omega)
    have hS2 := hS.kp hk2 (k' := k + 8 + 16 + 48 + 64) (by omega) (by omega)
    obtain ⟨h3, q3, f3⟩ := hS2.frz2 hv2
    refine s_st (h1 := h3) (r0 := .own 4 1 (bl (orB X (img (s.size + 1) (x.R s) A)))) (A := orB X (img (s.size + 1) (x.R s) A)) (args := [.isl (bl X), .isl (bl (img (s.size + 1) (x.R s) A))]) rfl ?_ f3 hor (.inr rfl) ?_
    · simp only [go_sem, ↓reduceIte, Nat.reduceEqDiff, Nat.reduceAdd, Nat.reduceMul, Nat.reduceSub, Nat.reduceLT, Nat.reduceLeDiff, Int.reduceEq, Int.reduceLT, Int.reduceLE, Int.reduceNeg, Int.reduceAdd, Int.reduceSub, reduceCtorEq, e9]; exact q3
    intro v4 h4 hv4 hk4
    have b4 := hk4.var b2 (by omega)
    clear hz hk2 b0 hk4 q3 f3 hS2 hv2 b2
    refine gK ?_
    refine ⟨hlt, ?_, ?_, ?_, ?_, ?_, ?_, ?_⟩
    · simp only [go_sem, ↓reduceIte, Nat.reduceEqDiff, Nat.reduceAdd, Nat.reduceMul, Nat.reduceSub, Nat.reduceLT, Nat.reduceLeDiff, Int.reduceEq, Int.reduceLT, Int.reduceLE, Int.reduceNeg, Int.reduceAdd, Int.reduceSub, reduceCtorEq, i1]
    · simp only [go_sem, ↓reduceIte, Nat.reduceEqDiff, Nat.reduceAdd, Nat.reduceMul, Nat.reduceSub, Nat.reduceLT, Nat.reduceLeDiff, Int.reduceEq, Int.reduceLT, Int.reduceLE, Int.reduceNeg, Int.reduceAdd, Int.reduceSub, reduceCtorEq, i2]
    · simp only [go_sem, ↓reduceIte, Nat.reduceEqDiff, Nat.reduceAdd, Nat.reduceMul, Nat.reduceSub, Nat.reduceLT, Nat.reduceLeDiff, Int.reduceEq, Int.reduceLT, Int.reduceLE, Int.reduceNeg, Int.reduceAdd, Int.reduceSub, reduceCtorEq, i3]
    · simp only [go_sem, ↓reduceIte, Nat.reduceEqDiff, Nat.reduceAdd, Nat.reduceMul, Nat.reduceSub, Nat.reduceLT, Nat.reduceLeDiff, Int.reduceEq, Int.reduceLT, Int.reduceLE, Int.reduceNeg, Int.reduceAdd, Int.reduceSub, reduceCtorEq]
    · exact b4
    · simp only; omega
    · rw [hta]
      simp only [go_sem, ↓reduceIte, Nat.reduceEqDiff, Nat.reduceAdd, Nat.reduceMul, Nat.reduceSub, Nat.reduceLT, Nat.reduceLeDiff, Int.reduceEq, Int.reduceLT, Int.reduceLE, Int.reduceNeg, Int.reduceAdd, Int.reduceSub, reduceCtorEq]
      exact hv4.up (by (try simp only); omega)
  · have hta : Rs.take subs.length = Rs := List.take_of_length_le (by omega)
    rw [hta] at hS
    have hn' := fun (e' : Env) (h' : Hp) (k' : Nat) => hn e' h' k'
    have hSh : Hid (_) := hS
    generalize e9 : e 9 = v7 at *
    clear hst hn hRat hS hRs
    refine gK ?_
    refine hn' _ _ _ ?_
    simp only [go_sem, ↓reduceIte, Nat.reduceEqDiff, Nat.reduceAdd, Nat.reduceMul, Nat.reduceSub, Nat.reduceLT, Nat.reduceLeDiff, Int.reduceEq, Int.reduceLT, Int.reduceLE, Int.reduceNeg, Int.reduceAdd, Int.reduceSub, reduceCtorEq, e9]
    exact (show SV _ _ _ _ from hSh).up (by omega)
end Go.Proofs.Ytpdamhhaepcffaa.AE
/-
  regexec: the reference's step on what is one byte long or stands.
-/
set_option linter.unusedVariables false
set_option linter.unusedSimpArgs false
set_option maxHeartbeats 8000000
set_option maxRecDepth 100000
namespace Go.Proofs.Ytpdamhhaepcffaa.AE
open Go
theorem pre_keep {C : List Bool} {j : Nat} (h : C[j]? ≠ some true) : pre C (j + 1) = pre C j := by
  unfold pre
  rcases Nat.lt_or_ge j C.length with hj | hj
  · have h1 : C[j]? = some false := by
      rw [List.getElem?_eq_getElem hj] at h ⊢
      cases hc : C[j] with
      | true => rw [hc] at h; exact absurd rfl h
      | false => rfl
    rw [List.take_add_one, h1, show C.length - j = (C.length - (j + 1)) + 1 by omega, List.replicate_succ]
    simp
  · rw [List.take_of_length_le (by omega), List.take_of_length_le hj, show C.length - j = 0 by omega, show C.length - (j + 1) = 0 by omega]
theorem pre_over (C : List Bool) {j : Nat} (h : C.length ≤ j) : pre C j = C := by
  unfold pre
  rw [List.take_of_length_le h, show C.length - j = 0 by omega]
  simp
theorem nextE {j n : Nat} (h : j ≤ n + 1) : (j ≤ n ∧ decide ((j : Int) ≤ (n : Int)) = true) ∨ (j = n + 1 ∧ decide ((j : Int) ≤ (n : Int)) = false) := by
  rcases Nat.lt_or_ge n j with h1 | h1
  · exact .inr ⟨by omega, by simp; omega⟩
  · exact .inl ⟨h1, by simp; omega⟩
theorem in31c {s : ByteArray} (hs : s.size ≤ 500) {z : Bool} {set : List (Int × Int)} {mn mx : Int} {subs : List Rx} (hset : set.length < 100000000000000) {A : List Bool} (hA : A.length = s.size + 1) (e : Env) (h : Hp) (k : Nat) (Q : Ex → St → Prop) (i1 : e 1 = .str s) (i2 : e 2 = .isl (bl A)) (i3 : e 3 = .ptr 0 0 0) (i11 : e 11 = .osl 88) (i12 : e 12 = .int .i64 (0 : Nat))
    (b0 : h 0 = .var [.int .i64 1, rz z set, .int .i64 mn, .int .i64 mx, rs z subs] true) (b88 : h 88 = .row 4 1 (bl (non (s.size + 1))) true) (ik : 104 ≤ k)
    (hn : ∀ (e' : Env) (h' : Hp) (k' : Nat), e' 11 = .osl 88 → h' 88 = .row 4 1 (bl (img (s.size + 1) (setR set s) A)) true → 104 ≤ k' → Q .nrm ⟨e', h', k'⟩) : Rn xp md (.loop L31_2) ⟨e, h, k⟩ (Bk 5 Q) := by
  have hz : (img (s.size + 1) (setR set s) A)[0]? = some false := by
    refine img_at (by omega) ?_
    constructor
    · intro h; cases h
    · rintro ⟨i, _, _, h, _⟩; omega
  have hat : ∀ (j : Nat) (x : Bool), j < s.size → A[j]? = some x → (img (s.size + 1) (setR set s) A)[j + 1]? = some (x && inSet set (byt s j)) := by
    intro j x hj hx
    refine img_at (by omega) ?_
    constructor
    · intro h
      simp only [Bool.and_eq_true] at h
      exact ⟨j, by rw [On, hx, h.1], hj, rfl, h.2⟩
    · rintro ⟨i, h1, h2, h3, h4⟩
      obtain rfl : i = j := by omega
      rw [On, hx] at h1
      rw [Option.some.inj h1, h4]; rfl
  have hC := img_len (s.size + 1) (setR set s) A
  generalize img (s.size + 1) (setR set s) A = C at *
  have p0 : non (s.size + 1) = pre C (0 + 1) := by
    rw [pre_keep (by rw [hz]; simp), pre_zero, hC]; rfl
  have pall : pre C (s.size + 1 + 1) = C := pre_over C (by omega)
  have hAl : A.length ≤ s.size + 1 ∧ s.size + 1 ≤ A.length := by omega
  have hCl : C.length ≤ s.size + 1 ∧ s.size + 1 ≤ C.length := by omega
  rw [p0] at b88
  clear p0 hA hC hz
  refine rn_loop (s.size + 1) (fun j st => st.e 1 = .str s ∧ st.e 2 = .isl (bl A) ∧ st.e 3 = .ptr 0 0 0 ∧ st.e 11 = .osl 88 ∧ st.e 12 = .int .i64 j ∧ st.h 0 = .var [.int .i64 1, rz z set, .int .i64 mn, .int .i64 mx, rs z subs] true ∧ st.h 88 = .row 4 1 (bl (pre C (j + 1))) true ∧ 104 ≤ st.k) (j := 0) ⟨i1, i2, i3, i11, i12, b0, b88, ik⟩ (Nat.zero_le _) ?_
  clear i1 i2 i3 i11 i12 b0 b88 ik e h k
  rintro j ⟨e, h, k⟩ hj ⟨i1, i2, i3, i11, i12, b0, b88, ik⟩
  dsimp only at i1 i2 i3 i11 i12 b0 b88 ik
  have n1 : ∀ c, c < 104 → (c = k) = False := fun c hc => by simp; omega
  have n2 : ∀ c, c < 104 → (k = c) = False := fun c hc => by simp; omega
  rcases nextE hj with ⟨hle, c1⟩ | ⟨rfl, c1⟩
  · obtain ⟨x, hx⟩ := at_lt (show j < A.length by omega)
    have w1 := inc64 j (by omega)
    cases x with
    | false =>
      have hk : pre C (j + 1 + 1) = pre C (j + 1) := by
        rcases Nat.lt_or_ge j s.size with h1 | h1
        · exact pre_keep (by rw [hat j false h1 hx]; simp)
        · rw [pre_over C (by omega), pre_over C (by omega)]
      rw [← hk] at b88
      clear hat pall hn hk
      refine gK ?_
      refine ⟨by omega, ?_, ?_, ?_, ?_, ?_, ?_, ?_, ?_⟩
      all_goals first | (simp only [go_sem, ↓reduceIte, Nat.reduceEqDiff, Nat.reduceAdd, Nat.reduceMul, Nat.reduceSub, Nat.reduceLT, Nat.reduceLeDiff, Int.reduceEq, Int.reduceLT, Int.reduceLE, Int.reduceNeg, Int.reduceAdd, Int.reduceSub, reduceCtorEq, *]; done) | (simp only; omega)
    | true =>
      rcases Nat.lt_or_ge j s.size with hlt | hge
      · have hix := ixD_at hlt
        have c2 : decide ((j : Int) < (s.size : Int)) = true := by simp; omega
        have s52 := f52 z set (byt s j) hset
        have hc := hat j true hlt hx
        rw [Bool.true_and] at hc
        have w2 : 0 ≤ (((j + 1 : Nat) : Int)) := by omega
        have p1 := pre_at C (j := j + 1) (by omega)
        have p2 := pre_set hc
        have p3 := bl_set (pre C (j + 1)) (j + 1) true
        have p4 : j + 1 < (pre C (j + 1)).length := by rw [pre_len C (by omega)]; omega
        have hkp : inSet set (byt s j) = false → pre C (j + 1 + 1) = pre C (j + 1) := fun h => pre_keep (by rw [hc, h]; simp)
        have hbb : 104 ≤ k := ik
        generalize byt s j = c at *
        cases hy : inSet set c with
        | true =>
          rw [hy] at p2 s52
          rw [p2] at p3
          clear hat pall hn hc p2 hkp hy
          refine gK ?_
          refine ⟨by omega, ?_, ?_, ?_, ?_, ?_, ?_, ?_, ?_⟩
          all_goals first | (simp only [go_sem, ↓reduceIte, Nat.reduceEqDiff, Nat.reduceAdd, Nat.reduceMul, Nat.reduceSub, Nat.reduceLT, Nat.reduceLeDiff, Int.reduceEq, Int.reduceLT, Int.reduceLE, Int.reduceNeg, Int.reduceAdd, Int.reduceSub, reduceCtorEq, *]; done) | (simp only; omega)
        | false =>
          rw [hy] at s52
          have hk := hkp hy
          rw [← hk] at b88
          clear hat pall hn hc p2 hkp hy hk p1 p3 p4
          refine gK ?_
          refine ⟨by omega, ?_, ?_, ?_, ?_, ?_, ?_, ?_, ?_⟩
          all_goals first | (simp only [go_sem, ↓reduceIte, Nat.reduceEqDiff, Nat.reduceAdd, Nat.reduceMul, Nat.reduceSub, Nat.reduceLT, Nat.reduceLeDiff, Int.reduceEq, Int.reduceLT, Int.reduceLE, Int.reduceNeg, Int.reduceAdd, Int.reduceSub, reduceCtorEq, *]; done) | (simp only; omega)
      · have c2 : decide ((j : Int) < (s.size : Int)) = false := by simp; omega
        have hk : pre C (j + 1 + 1) = pre C (j + 1) := by rw [pre_over C (by omega), pre_over C (by omega)]
        rw [← hk] at b88
        clear hat pall hn hk
        refine gK ?_
        refine ⟨by omega, ?_, ?_, ?_, ?_, ?_, ?_, ?_, ?_⟩
        all_goals first | (simp only [go_sem, ↓reduceIte, Nat.reduceEqDiff, Nat.reduceAdd, Nat.reduceMul, Nat.reduceSub, Nat.reduceLT, Nat.reduceLeDiff, Int.reduceEq, Int.reduceLT, Int.reduceLE, Int.reduceNeg, Int.reduceAdd, Int.reduceSub, reduceCtorEq, *]; done) | (simp only; omega)
  · rw [pall] at b88
    have hn' := fun (e' : Env) (h' : Hp) (k' : Nat) => hn e' h' k'
    clear hn hat pall
    refine gK ?_
    refine hn' _ _ _ ?_ ?_ ?_ <;> first | (simp only [go_sem, ↓reduceIte, Nat.reduceEqDiff, Nat.reduceAdd, Nat.reduceMul, Nat.reduceSub, Nat.reduceLT, Nat.reduceLeDiff, Int.reduceEq, Int.reduceLT, Int.reduceLE, Int.reduceNeg, Int.reduceAdd, Int.reduceSub, reduceCtorEq, *]; done) | omega
theorem in31d {s : ByteArray} (hs : s.size ≤ 500) {k0 : Int} (hk0 : 5 ≤ k0) {z : Bool} {set : List (Int × Int)} {mn mx : Int} {subs : List Rx} {A : List Bool} (hA : A.length = s.size + 1) (e : Env) (h : Hp) (k : Nat) (Q : Ex → St → Prop) (i1 : e 1 = .str s) (i2 : e 2 = .isl (bl A)) (i3 : e 3 = .ptr 0 0 0) (i11 : e 11 = .osl 88) (i12 : e 12 = .int .i64 (0 : Nat))
    (b0 : h 0 = .var [.int .i64 k0, rz z set, .int .i64 mn, .int .i64 mx, rs z subs] true) (b88 : h 88 = .row 4 1 (bl (non (s.size + 1))) true) (ik : 104 ≤ k)
    (hn : ∀ (e' : Env) (h' : Hp) (k' : Nat), e' 11 = .osl 88 → h' 88 = .row 4 1 (bl (img (s.size + 1) (stR k0 s) A)) true → 104 ≤ k' → Q .nrm ⟨e', h', k'⟩) : Rn xp md (.loop L31_2) ⟨e, h, k⟩ (Bk 5 Q) := by
  have hat : ∀ (j : Nat) (x : Bool), j < s.size + 1 → A[j]? = some x → (img (s.size + 1) (stR k0 s) A)[j]? = some (x && stands k0 s j) := by
    intro j x hj hx
    refine img_at hj ?_
    constructor
    · intro h
      simp only [Bool.and_eq_true] at h
      exact ⟨j, by rw [On, hx, h.1], rfl, by omega, h.2⟩
    · rintro ⟨i, h1, rfl, h2, h3⟩
      rw [On, hx] at h1
      rw [Option.some.inj h1, h3]; rfl
  have hC := img_len (s.size + 1) (stR k0 s) A
  generalize img (s.size + 1) (stR k0 s) A = C at *
  have p0 : non (s.size + 1) = pre C 0 := by
    rw [pre_zero, hC]; rfl
  have pall : pre C (s.size + 1) = C := pre_over C (by omega)
  have hAl : A.length ≤ s.size + 1 ∧ s.size + 1 ≤ A.length := by omega
  have hCl : C.length ≤ s.size + 1 ∧ s.size + 1 ≤ C.length := by omega
  rw [p0] at b88
  have d1 : decide (k0 = 1) = false := decide_eq_false (by omega)
  clear p0 hA hC hk0
  refine rn_loop (s.size + 1) (fun j st => st.e 1 = .str s ∧ st.e 2 = .isl (bl A) ∧ st.e 3 = .ptr 0 0 0 ∧ st.e 11 = .osl 88 ∧ st.e 12 = .int .i64 j ∧ st.h 0 = .var [.int .i64 k0, rz z set, .int .i64 mn, .int .i64 mx, rs z subs] true ∧ st.h 88 = .row 4 1 (bl (pre C j)) true ∧ 104 ≤ st.k) (j := 0) ⟨i1, i2, i3, i11, i12, b0, b88, ik⟩ (Nat.zero_le _) ?_
  clear i1 i2 i3 i11 i12 b0 b88 ik e h k
  rintro j ⟨e, h, k⟩ hj ⟨i1, i2, i3, i11, i12, b0, b88, ik⟩
  dsimp only at i1 i2 i3 i11 i12 b0 b88 ik
  have n1 : ∀ c, c < 104 → (c = k) = False := fun c hc => by simp; omega
  have n2 : ∀ c, c < 104 → (k = c) = False := fun c hc => by simp; omega
  rcases nextE hj with ⟨hle, c1⟩ | ⟨rfl, c1⟩
  · obtain ⟨x, hx⟩ := at_lt (show j < A.length by omega)
    have w1 := inc64 j (by omega)
    have hc := hat j x (by omega) hx
    cases x with
    | false =>
      have hk : pre C (j + 1) = pre C j := pre_keep (by rw [hc]; simp)
      rw [← hk] at b88
      clear hat pall hn hk hc
      refine gK ?_
      refine ⟨by omega, ?_, ?_, ?_, ?_, ?_, ?_, ?_, ?_⟩
      all_goals first | (simp only [go_sem, ↓reduceIte, Nat.reduceEqDiff, Nat.reduceAdd, Nat.reduceMul, Nat.reduceSub, Nat.reduceLT, Nat.reduceLeDiff, Int.reduceEq, Int.reduceLT, Int.reduceLE, Int.reduceNeg, Int.reduceAdd, Int.reduceSub, reduceCtorEq, *]; done) | (simp only; omega)
    | true =>
      have s53 := f53 k0 s j hle (by omega)
      rw [Bool.true_and] at hc
      have p1 := pre_at C (j := j) (by omega)
      have p2 := pre_set hc
      have p3 := bl_set (pre C j) j true
      have p4 : j < (pre C j).length := by rw [pre_len C (by omega)]; omega
      have hkp : stands k0 s j = false → pre C (j + 1) = pre C j := fun h => pre_keep (by rw [hc, h]; simp)
      cases hy : stands k0 s j with
      | true =>
        rw [hy] at p2 s53
        rw [p2] at p3
        clear hat pall hn hc p2 hkp hy
        refine gK ?_
        refine ⟨by omega, ?_, ?_, ?_, ?_, ?_, ?_, ?_, ?_⟩
        all_goals first | (simp only [go_sem, ↓reduceIte, Nat.reduceEqDiff, Nat.reduceAdd, Nat.reduceMul, Nat.reduceSub, Nat.reduceLT, Nat.reduceLeDiff, Int.reduceEq, Int.reduceLT, Int.reduceLE, Int.reduceNeg, Int.reduceAdd, Int.reduceSub, reduceCtorEq, *]; done) | (simp only; omega)
      | false =>
        rw [hy] at s53
        have hk := hkp hy
        rw [← hk] at b88
        clear hat pall hn hc p2 hkp hy hk p1 p3 p4
        refine gK ?_
        refine ⟨by omega, ?_, ?_, ?_, ?_, ?_, ?_, ?_, ?_⟩
        all_goals first | (simp only [go_sem, ↓reduceIte, Nat.reduceEqDiff, Nat.reduceAdd, Nat.reduceMul, Nat.reduceSub, Nat.reduceLT, Nat.reduceLeDiff, Int.reduceEq, Int.reduceLT, Int.reduceLE, Int.reduceNeg, Int.reduceAdd, Int.reduceSub, reduceCtorEq, *]; done) | (simp only; omega)
  · rw [pall] at b88
    have hn' := fun (e' : Env) (h' : Hp) (k' : Nat) => hn e' h' k'
    clear hn hat pall
    refine gK ?_
    refine hn' _ _ _ ?_ ?_ ?_ <;> first | (simp only [go_sem, ↓reduceIte, Nat.reduceEqDiff, Nat.reduceAdd, Nat.reduceMul, Nat.reduceSub, Nat.reduceLT, Nat.reduceLeDiff, Int.reduceEq, Int.reduceLT, Int.reduceLE, Int.reduceNeg, Int.reduceAdd, Int.reduceSub, reduceCtorEq, *]; done) | omega
end Go.Proofs.Ytpdamhhaepcffaa.AE
/-
  regexec: the reference's repetition, and its step as a whole.
-/
set_option linter.unusedVariables false
set_option linter.unusedSimpArgs false
set_option maxHeartbeats 8000000
set_option maxRecDepth 100000
namespace Go.Proofs.Ytpdamhhaepcffaa.AE
open Go
section
variable {s : ByteArray} {z : Bool} {set : List (Int × Int)} {x : Rx} {A : List Bool}
theorem rows1 (z : Bool) (x : Rx) : rs z [x] = .isl [x.cells] := by
  rcases rs_cases z [x] with e | ⟨_, e⟩
  · rw [e, Rx.rows, Rx.rows]
  · cases e
theorem in51a (hx : Stp s x) (hA : A.length = s.size + 1) (hs : s.size ≤ 500) {a : Nat} {mx : Int} (ha : a ≤ 8) (e : Env) (h : Hp) (k : Nat) (Q : Ex → St → Prop) (i1 : e 1 = .str s) (i3 : e 3 = .ptr 0 0 0) (hS : SV h k (e 7) A) (i8 : e 8 = .int .i64 (0 : Nat)) (b0 : h 0 = .var [.int .i64 4, rz z set, .int .i64 a, .int .i64 mx, .isl [x.cells]] true) (ik : 16 ≤ k)
    (hn : ∀ (e' : Env) (h' : Hp) (k' : Nat), e' 1 = .str s → e' 3 = .ptr 0 0 0 → h' 0 = .var [.int .i64 4, rz z set, .int .i64 a, .int .i64 mx, .isl [x.cells]] true → SV h' k' (e' 7) (pI (s.size + 1) (x.R s) A a) → 16 ≤ k' → Q .nrm ⟨e', h', k'⟩) : Rn xp md (.loop L51_0) ⟨e, h, k⟩ (Bk 0 Q) := by
  refine rn_loop a (fun j st => st.e 1 = .str s ∧ st.e 3 = .ptr 0 0 0 ∧ st.e 8 = .int .i64 j ∧ st.h 0 = .var [.int .i64 4, rz z set, .int .i64 a, .int .i64 mx, .isl [x.cells]] true ∧ 16 ≤ st.k ∧ SV st.h st.k (st.e 7) (pI (s.size + 1) (x.R s) A j)) (j := 0) ⟨i1, i3, i8, b0, ik, hS⟩ (Nat.zero_le _) ?_
  clear i1 i3 i8 b0 ik hS e h k
  rintro j ⟨e, h, k⟩ hj ⟨i1, i3, i8, b0, ik, hS⟩
  dsimp only at i1 i3 i8 b0 ik hS
  obtain ⟨xl, xi, xt, xd, xf, xc, xz⟩ := cellsF x
  rcases nextC hj with ⟨hlt, c1⟩ | ⟨rfl, c1⟩
  · have w1 := inc64 j (by omega)
    have hPl := pI_len (R := x.R s) hA j
    have hp1 : pI (s.size + 1) (x.R s) A (j + 1) = img (s.size + 1) (x.R s) (pI (s.size + 1) (x.R s) A j) := rfl
    have hfix : img (s.size + 1) (x.R s) (pI (s.size + 1) (x.R s) A j) = pI (s.size + 1) (x.R s) A j → pI (s.size + 1) (x.R s) A a = pI (s.size + 1) (x.R s) A j := fun h => pI_fix j h a (by omega)
    obtain ⟨h1, q1, f1⟩ := hS.frz
    obtain ⟨r0, hc, hs0⟩ := hx _ hPl
    have hch : Hid (_) := hc
    have hz := frzC (x := x) (s := s) q1
    have hsm : Hid (_) := f60 (img (s.size + 1) (x.R s) (pI (s.size + 1) (x.R s) A j)) (pI (s.size + 1) (x.R s) A j) (by rw [img_len]; omega) (by rw [img_len, hPl])
    generalize hPe : pI (s.size + 1) (x.R s) A j = P at *
    generalize hPn : pI (s.size + 1) (x.R s) A (j + 1) = P' at *
    generalize hPa : pI (s.size + 1) (x.R s) A a = Pa at *
    subst hp1
    generalize e7 : e 7 = v0 at *
    have hn' := fun (e' : Env) (h' : Hp) (k' : Nat) => hn e' h' k'
    have hSh : Hid (_) := hS
    clear hx hn hc hPe hPn hPa hS hA hPl
    refine gK ?_
    refine s_st (h1 := h1) (r0 := r0) rfl ?_ f1 hch hs0 ?_
    · simp only [go_sem, ↓reduceIte, Nat.reduceEqDiff, Nat.reduceAdd, Nat.reduceMul, Nat.reduceSub, Nat.reduceLT, Nat.reduceLeDiff, Int.reduceEq, Int.reduceLT, Int.reduceLE, Int.reduceNeg, Int.reduceAdd, Int.reduceSub, reduceCtorEq, e7, i1]; exact hz
    intro v2 h2 hv2 hk2
    have b2 := hk2.var b0 (by omega)
    have hS2 := (show SV _ _ _ _ from hSh).kp hk2 (k' := k + 32 + 64) (by omega) (by omega)
    clear hz q1 f1 hk2 b0 hSh hch
    refine gK ?_
    refine s_c2 hv2 hS2 eA (by simp only [go_sem, ↓reduceIte, Nat.reduceEqDiff, Nat.reduceAdd, Nat.reduceMul, Nat.reduceSub, Nat.reduceLT, Nat.reduceLeDiff, Int.reduceEq, Int.reduceLT, Int.reduceLE, Int.reduceNeg, Int.reduceAdd, Int.reduceSub, reduceCtorEq, e7]) rfl hsm ?_
    cases hd : decide (img (s.size + 1) (x.R s) P = P) with
    | true =>
      have hfx := hfix (of_decide_eq_true hd)
      rw [← hfx] at hS2
      have hSh : Hid (_) := hS2
      clear hfix hsm hd hv2 hfx hS2
      refine gK ?_
      refine hn' _ _ _ ?_ ?_ b2 ?_ (by omega)
      · simp only [go_sem, ↓reduceIte, Nat.reduceEqDiff, Nat.reduceAdd, Nat.reduceMul, Nat.reduceSub, Nat.reduceLT, Nat.reduceLeDiff, Int.reduceEq, Int.reduceLT, Int.reduceLE, Int.reduceNeg, Int.reduceAdd, Int.reduceSub, reduceCtorEq, i1]
      · simp only [go_sem, ↓reduceIte, Nat.reduceEqDiff, Nat.reduceAdd, Nat.reduceMul, Nat.reduceSub, Nat.reduceLT, Nat.reduceLeDiff, Int.reduceEq, Int.reduceLT, Int.reduceLE, Int.reduceNeg, Int.reduceAdd, Int.reduceSub, reduceCtorEq, i3]
      · simp only [go_sem, ↓reduceIte, Nat.reduceEqDiff, Nat.reduceAdd, Nat.reduceMul, Nat.reduceSub, Nat.reduceLT, Nat.reduceLeDiff, Int.reduceEq, Int.reduceLT, Int.reduceLE, Int.reduceNeg, Int.reduceAdd, Int.reduceSub, reduceCtorEq, e7]
        exact (show SV _ _ _ _ from hSh).up (by omega)
    | false =>
      have hvh : Hid (_) := hv2
      clear hfix hsm hd hv2 hS2 hn'
      refine gK ?_
      refine ⟨hlt, ?_, ?_, ?_, ?_, ?_, ?_⟩
      · simp only [go_sem, ↓reduceIte, Nat.reduceEqDiff, Nat.reduceAdd, Nat.reduceMul, Nat.reduceSub, Nat.reduceLT, Nat.reduceLeDiff, Int.reduceEq, Int.reduceLT, Int.reduceLE, Int.reduceNeg, Int.reduceAdd, Int.reduceSub, reduceCtorEq, i1]
      · simp only [go_sem, ↓reduceIte, Nat.reduceEqDiff, Nat.reduceAdd, Nat.reduceMul, Nat.reduceSub, Nat.reduceLT, Nat.reduceLeDiff, Int.reduceEq, Int.reduceLT, Int.reduceLE, Int.reduceNeg, Int.reduceAdd, Int.reduceSub, reduceCtorEq, i3]
      · simp only [go_sem, ↓reduceIte, Nat.reduceEqDiff, Nat.reduceAdd, Nat.reduceMul, Nat.reduceSub, Nat.reduceLT, Nat.reduceLeDiff, Int.reduceEq, Int.reduceLT, Int.reduceLE, Int.reduceNeg, Int.reduceAdd, Int.reduceSub, reduceCtorEq]
      · exact b2
      · simp only; omega
      · simp only [go_sem, ↓reduceIte, Nat.reduceEqDiff, Nat.reduceAdd, Nat.reduceMul, Nat.reduceSub, Nat.reduceLT, Nat.reduceLeDiff, Int.reduceEq, Int.reduceLT, Int.reduceLE, Int.reduceNeg, Int.reduceAdd, Int.reduceSub, reduceCtorEq]
        exact (show SV _ _ _ _ from hvh).up (by (try simp only); omega)
  · have hn' := fun (e' : Env) (h' : Hp) (k' : Nat) => hn e' h' k'
    have hSh : Hid (_) := hS
    generalize pI (s.size + 1) (x.R s) A j = P at *
    generalize e7 : e 7 = v7 at *
    clear hx hn hS
    refine gK ?_
    refine hn' _ _ _ ?_ ?_ ?_ ?_ (by omega)
    · simp only [go_sem, ↓reduceIte, Nat.reduceEqDiff, Nat.reduceAdd, Nat.reduceMul, Nat.reduceSub, Nat.reduceLT, Nat.reduceLeDiff, Int.reduceEq, Int.reduceLT, Int.reduceLE, Int.reduceNeg, Int.reduceAdd, Int.reduceSub, reduceCtorEq, i1]
    · simp only [go_sem, ↓reduceIte, Nat.reduceEqDiff, Nat.reduceAdd, Nat.reduceMul, Nat.reduceSub, Nat.reduceLT, Nat.reduceLeDiff, Int.reduceEq, Int.reduceLT, Int.reduceLE, Int.reduceNeg, Int.reduceAdd, Int.reduceSub, reduceCtorEq, i3]
    · exact b0
    · simp only [go_sem, ↓reduceIte, Nat.reduceEqDiff, Nat.reduceAdd, Nat.reduceMul, Nat.reduceSub, Nat.reduceLT, Nat.reduceLeDiff, Int.reduceEq, Int.reduceLT, Int.reduceLE, Int.reduceNeg, Int.reduceAdd, Int.reduceSub, reduceCtorEq, e7]
      exact (show SV _ _ _ _ from hSh).up (by omega)
theorem s_c34 {e : Env} {h : Hp} {k i n t a b : Nat} {kk kk' : Nat} {v w : D} {X Y Z : List Bool} {q : Bool} {bs : List Nat} {r : List XO} {K : St → Prop} (hv : SV h kk v X) (hw : SV h kk' w Y) (ha : e a = v) (hb : e b = w) (hf : callP (Lv xp md) 34 [.isl (bl X), .isl (bl Y)] = some [.own 4 1 (bl Z), .bool q])
    (hr : ∀ h', Kp h h' (k + i) → h' (k + i) = .row 4 1 (bl Z) true → RO xp md k (i + 8) r (eput e t (.tup [.osl (k + i), .bool q])) h' n K) : RO xp md k i (⟨some t, none, .call 34 [.t a, .t b], bs⟩ :: r) e h n K := by
  obtain ⟨h2, q2, f2⟩ := hv.frz2 hw
  refine s_cv (rs := [.own 4 1 (bl Z), .bool q]) (args := [.isl (bl X), .isl (bl Y)]) (h1 := h2) (args' := [.osl (k + i), .bool q]) (h' := hput h2 (k + i) (.row 4 1 (bl Z) true)) (hr _ ⟨h2, f2, fun l hl => hput_ne _ _ hl⟩ (hput_same _ _ _)) rfl ?_ hf rfl (by simp) rfl
  show frzL _ h [e a, e b] = _
  rw [ha, hb]
  exact q2
theorem in51b (hx : Stp s x) {L : List Bool} (hL : L.length = s.size + 1) (hs : s.size ≤ 500) {a : Nat} {mx : Int} (ha : a ≤ 8) (hmx : mx = -1 ∨ ((a : Int) ≤ mx ∧ mx ≤ 8)) {T : List Bool} (hy2 : ∀ t : Nat, ((a + t : Nat) : Int) = mx → (aI (s.size + 1) (x.R s) L t).1 = T) (hy3 : ∀ t : Nat, (mx < 0 ∨ ((a + t : Nat) : Int) ≤ mx) → some_ (aI (s.size + 1) (x.R s) L t).2 = false → (aI (s.size + 1) (x.R s) L t).1 = T)
    (e : Env) (h : Hp) (k : Nat) (Q : Ex → St → Prop) (i1 : e 1 = .str s) (i3 : e 3 = .ptr 0 0 0) (hS : SV h k (e 10) L) (hS2 : SV h k (e 12) L) (i11 : e 11 = .bool true) (i13 : e 13 = .int .i64 a) (b0 : h 0 = .var [.int .i64 4, rz z set, .int .i64 a, .int .i64 mx, .isl [x.cells]] true) (ik : 16 ≤ k)
    (hn : ∀ (e' : Env) (h' : Hp) (k' : Nat), SV h' k' (e' 10) T → Q .nrm ⟨e', h', k'⟩) : Rn xp md (.loop L51_1) ⟨e, h, k⟩ (Bk 2 Q) := by
  refine rn_loop 2000 (fun t st => st.e 1 = .str s ∧ st.e 3 = .ptr 0 0 0 ∧ (∃ b, st.e 11 = .bool b ∧ ((t = 0 ∧ b = true) ∨ ∃ t', t = t' + 1 ∧ b = some_ (aI (s.size + 1) (x.R s) L t).2 ∧ t ≤ (aI (s.size + 1) (x.R s) L t').1.count true + 1)) ∧ st.e 13 = .int .i64 ((a + t : Nat) : Int) ∧ (mx < 0 ∨ ((a + t : Nat) : Int) ≤ mx) ∧ st.h 0 = .var [.int .i64 4, rz z set, .int .i64 a, .int .i64 mx, .isl [x.cells]] true ∧ 16 ≤ st.k ∧ SV st.h st.k (st.e 10) (aI (s.size + 1) (x.R s) L t).1 ∧ SV st.h st.k (st.e 12) (aI (s.size + 1) (x.R s) L t).2) (j := 0) ⟨i1, i3, ⟨true, i11, .inl ⟨rfl, rfl⟩⟩, i13, by omega, b0, ik, hS, hS2⟩ (Nat.zero_le _) ?_
  clear i1 i3 i11 i13 b0 ik hS hS2 e h k
  rintro t ⟨e, h, k⟩ hj ⟨i1, i3, ⟨b, i11, hb⟩, i13, hbd, b0, ik, hS, hS2⟩
  dsimp only at i1 i3 i11 i13 b0 ik hS hS2
  obtain ⟨xl, xi, xt, xd, xf, xc, xz⟩ := cellsF x
  have hl := aI_len (R := x.R s) hL t
  have hl1 := aI_len (R := x.R s) hL (t + 1)
  have hcl := cnt_len (aI (s.size + 1) (x.R s) L t).1
  have hstop : (b = false → (aI (s.size + 1) (x.R s) L t).1 = T) ∧ (b = true → t < 2000 ∧ t + 1 ≤ (aI (s.size + 1) (x.R s) L t).1.count true + 1) := by
    rcases hb with ⟨rfl, rfl⟩ | ⟨t', rfl, rfl, h3⟩
    · exact ⟨fun h => by (cases h), fun _ => by omega⟩
    · refine ⟨fun h => hy3 (t' + 1) hbd h, fun h => ?_⟩
      have := aI_cnt (R := x.R s) hL h
      omega
  clear hb
  cases b with
  | false =>
    rw [hstop.1 rfl] at hS
    have hn' := fun (e' : Env) (h' : Hp) (k' : Nat) => hn e' h' k'
    have hSh : Hid (_) := hS
    generalize e10 : e 10 = v7 at *
    clear hx hn hS hS2 hstop hy2 hy3 hl hl1 hcl hbd
    refine gK ?_
    refine hn' _ _ _ ?_
    simp only [go_sem, ↓reduceIte, Nat.reduceEqDiff, Nat.reduceAdd, Nat.reduceMul, Nat.reduceSub, Nat.reduceLT, Nat.reduceLeDiff, Int.reduceEq, Int.reduceLT, Int.reduceLE, Int.reduceNeg, Int.reduceAdd, Int.reduceSub, reduceCtorEq, e10]
    exact (show SV _ _ _ _ from hSh).up (by omega)
  | true =>
    obtain ⟨ht, hct⟩ := hstop.2 rfl
    have run : (mx < 0 ∨ ((a + t + 1 : Nat) : Int) ≤ mx) → True := fun _ => trivial
    clear run hstop
    by_cases hgo : mx < 0 ∨ ((a + t : Nat) : Int) < mx
    · have hd : (decide (mx < 0) = true) ∨ (decide (mx < 0) = false ∧ decide (((a + t : Nat) : Int) < mx) = true) := by
        rcases Int.lt_or_le mx 0 with h1 | h1
        · exact .inl (by simpa using h1)
        · exact .inr ⟨by simpa using h1, by simp; omega⟩
      have hbd2 : mx < 0 ∨ ((a + (t + 1) : Nat) : Int) ≤ mx := by omega
      have w1 : IntKind.i64.wrap (((a + t : Nat) : Int) + 1) = ((a + (t + 1) : Nat) : Int) := by rw [inc64 (a + t) (by omega)]; rfl
      have hE : (aI (s.size + 1) (x.R s) L (t + 1)).1 = orB (aI (s.size + 1) (x.R s) L t).1 (img (s.size + 1) (x.R s) (aI (s.size + 1) (x.R s) L t).2) := rfl
      have hF : (aI (s.size + 1) (x.R s) L (t + 1)).2 = newB (img (s.size + 1) (x.R s) (aI (s.size + 1) (x.R s) L t).2) (aI (s.size + 1) (x.R s) L t).1 := rfl
      rw [hF] at hl1
      obtain ⟨r0, hc, hs0⟩ := hx _ hl.2
      have hch : Hid (_) := hc
      obtain ⟨h1, q1, f1⟩ := hS2.frz
      have hz := frzC (x := x) (s := s) q1
      have hne : ∀ B : List Bool, B.length = s.size + 1 → B ≠ [] := fun B hB he => by rw [he] at hB; simp at hB
      have h34 : Hid (_) := f34 (img (s.size + 1) (x.R s) (aI (s.size + 1) (x.R s) L t).2) (aI (s.size + 1) (x.R s) L t).1 (by rw [img_len]; omega) (hne _ (img_len _ _ _)) (by rw [img_len]; omega)
      have h50 : Hid (_) := f50 (aI (s.size + 1) (x.R s) L t).1 (img (s.size + 1) (x.R s) (aI (s.size + 1) (x.R s) L t).2) (by omega) (hne _ hl.1) (by rw [img_len]; omega)
      have hct2 : Hid (_) := hct
      generalize hAe : (aI (s.size + 1) (x.R s) L t).1 = X at *
      generalize hBe : (aI (s.size + 1) (x.R s) L t).2 = Y at *
      generalize hIe : img (s.size + 1) (x.R s) Y = I at *
      generalize e10 : e 10 = v10 at *
      generalize e12 : e 12 = v12 at *
      have hSh : Hid (_) := hS
      have hnx : Hid (∀ b, b = some_ (newB I X) → ((t + 1 = 0 ∧ b = true) ∨ ∃ t', t + 1 = t' + 1 ∧ b = some_ (aI (s.size + 1) (x.R s) L (t + 1)).2 ∧ t + 1 ≤ (aI (s.size + 1) (x.R s) L t').1.count true + 1)) := by
        intro b hb
        refine .inr ⟨t, rfl, by rw [hF]; exact hb, by rw [hAe]; exact hct⟩
      have hEh : Hid (_) := hE
      have hFh : Hid (_) := hF
      clear hx hn hy2 hy3 hl hl1 hcl hS hS2 hgo hc hct hct2 hAe hBe hIe hE hF hne
      have hfin : ∀ (e' : Env) (h' : Hp) (k' : Nat), True := fun _ _ _ => trivial
      clear hfin
      rcases hd with hd | ⟨hd, hd2⟩
      all_goals
        refine gK ?_
        refine s_st (h1 := h1) (r0 := r0) rfl ?_ f1 hch hs0 ?_
        · simp only [go_sem, ↓reduceIte, Nat.reduceEqDiff, Nat.reduceAdd, Nat.reduceMul, Nat.reduceSub, Nat.reduceLT, Nat.reduceLeDiff, Int.reduceEq, Int.reduceLT, Int.reduceLE, Int.reduceNeg, Int.reduceAdd, Int.reduceSub, reduceCtorEq, e12, i1]; exact hz
        intro v2 h2 hv2 hk2
        have b2 := hk2.var b0 (by omega)
        have hS3 := (show SV _ _ _ _ from hSh).kp hk2 (k' := k + 96 + 64) (by omega) (by omega)
        clear hz q1 f1 hk2 b0 hSh hch
        refine gK ?_
        refine s_c34 hv2 hS3 eA (by simp only [go_sem, ↓reduceIte, Nat.reduceEqDiff, Nat.reduceAdd, Nat.reduceMul, Nat.reduceSub, Nat.reduceLT, Nat.reduceLeDiff, Int.reduceEq, Int.reduceLT, Int.reduceLE, Int.reduceNeg, Int.reduceAdd, Int.reduceSub, reduceCtorEq, e10]) h34 ?_
        intro h3 hk3 hrow
        have b3 := hk3.var b2 (by omega)
        have hv3 := hv2.kp hk3 (k' := k + 96 + 64 + 64) (by omega) (by omega)
        have hS4 := hS3.kp hk3 (k' := k + 96 + 64 + 64) (by omega) (by omega)
        clear hk3 b2 hv2 hS3 h34
        refine gK ?_
        obtain ⟨h4, q4, f4⟩ := hS4.frz2 hv3
        refine s_st (h1 := h4) (r0 := .own 4 1 (bl (orB X I))) (A := orB X I) (args := [.isl (bl X), .isl (bl I)]) rfl ?_ f4 h50 (.inr rfl) ?_
        · simp only [go_sem, ↓reduceIte, Nat.reduceEqDiff, Nat.reduceAdd, Nat.reduceMul, Nat.reduceSub, Nat.reduceLT, Nat.reduceLeDiff, Int.reduceEq, Int.reduceLT, Int.reduceLE, Int.reduceNeg, Int.reduceAdd, Int.reduceSub, reduceCtorEq, e10]; exact q4
        intro v5 h5 hv5 hk5
        have b5 := hk5.var b3 (by omega)
        have hrow2 : SV h3 (k + 96 + 64 + 17) (.osl (k + 96 + 64 + 16)) (newB I X) := .inr ⟨_, true, rfl, by omega, hrow⟩
        have hrow3 := hrow2.kp hk5 (k' := k + 96 + 64 + 64 + 32) (by omega) (by omega)
        clear hk5 b3 q4 f4 hv3 hS4 h50 hrow hrow2
        refine gK ?_
        refine ⟨ht, ?_, ?_, ⟨some_ (newB I X), ?_, hnx _ rfl⟩, ?_, hbd2, ?_, ?_, ?_, ?_⟩
        · simp only [go_sem, ↓reduceIte, Nat.reduceEqDiff, Nat.reduceAdd, Nat.reduceMul, Nat.reduceSub, Nat.reduceLT, Nat.reduceLeDiff, Int.reduceEq, Int.reduceLT, Int.reduceLE, Int.reduceNeg, Int.reduceAdd, Int.reduceSub, reduceCtorEq, i1]
        · simp only [go_sem, ↓reduceIte, Nat.reduceEqDiff, Nat.reduceAdd, Nat.reduceMul, Nat.reduceSub, Nat.reduceLT, Nat.reduceLeDiff, Int.reduceEq, Int.reduceLT, Int.reduceLE, Int.reduceNeg, Int.reduceAdd, Int.reduceSub, reduceCtorEq, i3]
        · simp only [go_sem, ↓reduceIte, Nat.reduceEqDiff, Nat.reduceAdd, Nat.reduceMul, Nat.reduceSub, Nat.reduceLT, Nat.reduceLeDiff, Int.reduceEq, Int.reduceLT, Int.reduceLE, Int.reduceNeg, Int.reduceAdd, Int.reduceSub, reduceCtorEq]
        · simp only [go_sem, ↓reduceIte, Nat.reduceEqDiff, Nat.reduceAdd, Nat.reduceMul, Nat.reduceSub, Nat.reduceLT, Nat.reduceLeDiff, Int.reduceEq, Int.reduceLT, Int.reduceLE, Int.reduceNeg, Int.reduceAdd, Int.reduceSub, reduceCtorEq, w1]
        · exact b5
        · simp only; omega
        · rw [show _ = _ from hEh]
          simp only [go_sem, ↓reduceIte, Nat.reduceEqDiff, Nat.reduceAdd, Nat.reduceMul, Nat.reduceSub, Nat.reduceLT, Nat.reduceLeDiff, Int.reduceEq, Int.reduceLT, Int.reduceLE, Int.reduceNeg, Int.reduceAdd, Int.reduceSub, reduceCtorEq]
          exact hv5.up (by (try simp only); omega)
        · rw [show _ = _ from hFh]
          simp only [go_sem, ↓reduceIte, Nat.reduceEqDiff, Nat.reduceAdd, Nat.reduceMul, Nat.reduceSub, Nat.reduceLT, Nat.reduceLeDiff, Int.reduceEq, Int.reduceLT, Int.reduceLE, Int.reduceNeg, Int.reduceAdd, Int.reduceSub, reduceCtorEq]
          exact hrow3.up (by (try simp only); omega)
    · have h1 : decide (mx < 0) = false := decide_eq_false (by omega)
      have h2 : decide (((a + t : Nat) : Int) < mx) = false := decide_eq_false (by omega)
      rw [hy2 t (by omega)] at hS
      have hn' := fun (e' : Env) (h' : Hp) (k' : Nat) => hn e' h' k'
      have hSh : Hid (_) := hS
      generalize e10 : e 10 = v7 at *
      clear hx hn hS hS2 hy2 hy3 hl hl1 hcl hbd hgo hct
      refine gK ?_
      refine hn' _ _ _ ?_
      simp only [go_sem, ↓reduceIte, Nat.reduceEqDiff, Nat.reduceAdd, Nat.reduceMul, Nat.reduceSub, Nat.reduceLT, Nat.reduceLeDiff, Int.reduceEq, Int.reduceLT, Int.reduceLE, Int.reduceNeg, Int.reduceAdd, Int.reduceSub, reduceCtorEq, e10]
      exact (show SV _ _ _ _ from hSh).up (by omega)
theorem f51 (hx : Stp s x) (hA : A.length = s.size + 1) (hs : s.size ≤ 500) {a : Nat} {mx : Int} (ha : a ≤ 8) (hmx : mx = -1 ∨ ((a : Int) ≤ mx ∧ mx ≤ 8)) : ∃ q, callP (Lv xp md) 51 [.agg [.int .i64 4, rz z set, .int .i64 a, .int .i64 mx, .isl [x.cells]], .str s, .isl (bl A)] = some [q] ∧ IsSet q (img (s.size + 1) (rep (x.R s) a mx) A) := by
  have hP := pI_len (R := x.R s) hA a
  have key1 := fun (e : Env) (h : Hp) (k : Nat) (Q : Ex → St → Prop) => in51a (z := z) (set := set) (mx := mx) hx hA hs ha e h k Q
  have key2 := fun (e : Env) (h : Hp) (k : Nat) (Q : Ex → St → Prop) => in51b (z := z) (set := set) hx hP hs ha hmx (T := img (s.size + 1) (rep (x.R s) a mx) A) (fun t ht => ey2 (Rx.wf s x) hA ht) (fun t ht hn => ey3 (Rx.wf s x) hA ht hn) e h k Q
  generalize img (s.size + 1) (rep (x.R s) a mx) A = T at *
  generalize pI (s.size + 1) (x.R s) A a = P at *
  clear hx hP hA hs hmx ha
  have k1 : Hid (_) := key1
  have k2 : Hid (_) := key2
  clear key1 key2
  refine fn_s (F := F51) rfl ?_ (by simp only [NT, List.length_cons, List.length_nil]; omega)
  refine gK ?_
  refine k1 _ _ _ _ eA eA ?_ eB eA (by omega) ?_
  · simp only [go_sem, ↓reduceIte, Nat.reduceEqDiff, Nat.reduceAdd, Nat.reduceMul, Nat.reduceSub, Nat.reduceLT, Nat.reduceLeDiff, Int.reduceEq, Int.reduceLT, Int.reduceLE, Int.reduceNeg, Int.reduceAdd, Int.reduceSub, reduceCtorEq]; exact .inl rfl
  intro e' h' k' i1 i3 b0 hS ik
  have hSh : Hid (_) := hS
  generalize e7 : e' 7 = v7 at *
  clear k1 hS
  refine gK ?_
  refine k2 _ _ _ _ (by simp only [go_sem, ↓reduceIte, Nat.reduceEqDiff, Nat.reduceAdd, Nat.reduceMul, Nat.reduceSub, Nat.reduceLT, Nat.reduceLeDiff, Int.reduceEq, Int.reduceLT, Int.reduceLE, Int.reduceNeg, Int.reduceAdd, Int.reduceSub, reduceCtorEq, i1]) (by simp only [go_sem, ↓reduceIte, Nat.reduceEqDiff, Nat.reduceAdd, Nat.reduceMul, Nat.reduceSub, Nat.reduceLT, Nat.reduceLeDiff, Int.reduceEq, Int.reduceLT, Int.reduceLE, Int.reduceNeg, Int.reduceAdd, Int.reduceSub, reduceCtorEq, i3]) ?_ ?_ eA eA b0 (by omega) ?_
  · simp only [go_sem, ↓reduceIte, Nat.reduceEqDiff, Nat.reduceAdd, Nat.reduceMul, Nat.reduceSub, Nat.reduceLT, Nat.reduceLeDiff, Int.reduceEq, Int.reduceLT, Int.reduceLE, Int.reduceNeg, Int.reduceAdd, Int.reduceSub, reduceCtorEq]
    exact (show SV _ _ _ _ from hSh).up (by omega)
  · simp only [go_sem, ↓reduceIte, Nat.reduceEqDiff, Nat.reduceAdd, Nat.reduceMul, Nat.reduceSub, Nat.reduceLT, Nat.reduceLeDiff, Int.reduceEq, Int.reduceLT, Int.reduceLE, Int.reduceNeg, Int.reduceAdd, Int.reduceSub, reduceCtorEq]
    exact (show SV _ _ _ _ from hSh).up (by omega)
  intro e2 h2 k2' hT
  have hTh : Hid (_) := hT
  generalize e10 : e2 10 = v10 at *
  clear k2 hT hSh
  refine gK ?_
  exact fs_r (by simp only [RS]; rfl) (by simp only [go_sem, ↓reduceIte, Nat.reduceEqDiff, Nat.reduceAdd, Nat.reduceMul, Nat.reduceSub, Nat.reduceLT, Nat.reduceLeDiff, Int.reduceEq, Int.reduceLT, Int.reduceLE, Int.reduceNeg, Int.reduceAdd, Int.reduceSub, reduceCtorEq, e10]) hTh
end
theorem stp (s : ByteArray) (hs : s.size ≤ 500) : ∀ r : Rx, Rx.Ok r → Stp s r := by
  intro r hr
  induction hr with
  | @mk k0 z set mn mx subs hk hset hl hrep hsub ih =>
    intro A hA
    rw [rx_cells]
    have s30 := f30 s (by omega)
    rcases (by omega : k0 = 1 ∨ k0 = 2 ∨ k0 = 3 ∨ k0 = 4 ∨ 5 ≤ k0) with rfl | rfl | rfl | rfl | hk5
    · rw [rx_R1]
      have key := fun (e : Env) (h : Hp) (k : Nat) (Q : Ex → St → Prop) => in31c (z := z) (mn := mn) (mx := mx) (subs := subs) hs hset hA e h k Q
      generalize img (s.size + 1) (setR set s) A = T at *
      have kh : Hid (_) := key
      clear key ih hsub hrep hA
      refine fn_s (F := F31) rfl ?_ (by simp only [NT, List.length_cons, List.length_nil]; omega)
      refine gK ?_
      refine kh _ _ _ _ eA eA eA eA eB eA eA (by omega) ?_
      intro e' h' k' e11 h88 ik
      clear kh
      refine gK ?_
      exact fs_r (by simp only [RS]; rfl) (by simp only [go_sem, ↓reduceIte, Nat.reduceEqDiff, Nat.reduceAdd, Nat.reduceMul, Nat.reduceSub, Nat.reduceLT, Nat.reduceLeDiff, Int.reduceEq, Int.reduceLT, Int.reduceLE, Int.reduceNeg, Int.reduceAdd, Int.reduceSub, reduceCtorEq, e11]) (k' := 89) (.inr ⟨88, true, rfl, by omega, h88⟩)
    · rw [rx_R2, seq_eq s subs A hA]
      have key := fun (e : Env) (h : Hp) (k : Nat) (Q : Ex → St → Prop) => in31a (k0 := 2) (z := z) (set := set) (mn := mn) (mx := mx) hl ih hA e h k Q
      generalize seqI (s.size + 1) (subs.map fun r => r.R s) A = T at *
      have kh : Hid (_) := key
      clear key ih hsub hrep hA
      refine fn_s (F := F31) rfl ?_ (by simp only [NT, List.length_cons, List.length_nil]; omega)
      refine gK ?_
      refine kh _ _ _ _ eA eA ?_ eB eA (by omega) ?_
      · simp only [go_sem, ↓reduceIte, Nat.reduceEqDiff, Nat.reduceAdd, Nat.reduceMul, Nat.reduceSub, Nat.reduceLT, Nat.reduceLeDiff, Int.reduceEq, Int.reduceLT, Int.reduceLE, Int.reduceNeg, Int.reduceAdd, Int.reduceSub, reduceCtorEq]; exact .inl rfl
      intro e' h' k' hT
      have hTh : Hid (_) := hT
      generalize e7 : e' 7 = v7 at *
      clear kh hT
      refine gK ?_
      exact fs_r (by simp only [RS]; rfl) (by simp only [go_sem, ↓reduceIte, Nat.reduceEqDiff, Nat.reduceAdd, Nat.reduceMul, Nat.reduceSub, Nat.reduceLT, Nat.reduceLeDiff, Int.reduceEq, Int.reduceLT, Int.reduceLE, Int.reduceNeg, Int.reduceAdd, Int.reduceSub, reduceCtorEq, e7]) hTh
    · rw [rx_R3, alt_eq s A subs]
      have key := fun (e : Env) (h : Hp) (k : Nat) (Q : Ex → St → Prop) => in31b (k0 := 3) (z := z) (set := set) (mn := mn) (mx := mx) hs hl ih hA e h k Q
      generalize altI (s.size + 1) (subs.map fun r => r.R s) A = T at *
      have kh : Hid (_) := key
      clear key ih hsub hrep hA
      refine fn_s (F := F31) rfl ?_ (by simp only [NT, List.length_cons, List.length_nil]; omega)
      refine gK ?_
      refine kh _ _ _ _ eA eA eA ?_ eB eA (by omega) ?_
      · exact .inr ⟨72, true, by simp only [go_sem, ↓reduceIte, Nat.reduceEqDiff, Nat.reduceAdd, Nat.reduceMul, Nat.reduceSub, Nat.reduceLT, Nat.reduceLeDiff, Int.reduceEq, Int.reduceLT, Int.reduceLE, Int.reduceNeg, Int.reduceAdd, Int.reduceSub, reduceCtorEq], by omega, by simp only [go_sem, ↓reduceIte, Nat.reduceEqDiff, Nat.reduceAdd, Nat.reduceMul, Nat.reduceSub, Nat.reduceLT, Nat.reduceLeDiff, Int.reduceEq, Int.reduceLT, Int.reduceLE, Int.reduceNeg, Int.reduceAdd, Int.reduceSub, reduceCtorEq]⟩
      intro e' h' k' hT
      have hTh : Hid (_) := hT
      generalize e9 : e' 9 = v7 at *
      clear kh hT
      refine gK ?_
      exact fs_r (by simp only [RS]; rfl) (by simp only [go_sem, ↓reduceIte, Nat.reduceEqDiff, Nat.reduceAdd, Nat.reduceMul, Nat.reduceSub, Nat.reduceLT, Nat.reduceLeDiff, Int.reduceEq, Int.reduceLT, Int.reduceLE, Int.reduceNeg, Int.reduceAdd, Int.reduceSub, reduceCtorEq, e9]) hTh
    · obtain ⟨hl1, hm0, hm8, hmx⟩ := hrep rfl
      obtain ⟨x, rfl⟩ : ∃ x, subs = [x] := by
        match subs, hl1 with
        | [x], _ => exact ⟨x, rfl⟩
      obtain ⟨a, rfl⟩ : ∃ a : Nat, mn = a := ⟨mn.toNat, by omega⟩
      have hx := ih x (by simp)
      obtain ⟨q, hq, hqs⟩ := f51 (z := z) (set := set) hx hA hs (a := a) (by omega) hmx
      rw [rx_R4, show fstR s [x] = x.R s by rw [fstR], rows1]
      generalize img (s.size + 1) (rep (x.R s) a mx) A = T at *
      obtain ⟨xl, xi, xt, xd, xf, xc, xz⟩ := cellsF x
      have hqh : Hid (_) := hq
      clear ih hsub hrep hA hx hq
      refine fn_s (F := F31) rfl ?_ (by simp only [NT, List.length_cons, List.length_nil]; omega)
      refine gK ?_
      refine s_st (args := [.agg [.int .i64 4, rz z set, .int .i64 a, .int .i64 mx, .isl [x.cells]], .str s, .isl (bl A)]) (r0 := q) rfl ?_ (.refl _) hqh hqs ?_
      · simp only [go_sem, ↓reduceIte, Nat.reduceEqDiff, Nat.reduceAdd, Nat.reduceMul, Nat.reduceSub, Nat.reduceLT, Nat.reduceLeDiff, Int.reduceEq, Int.reduceLT, Int.reduceLE, Int.reduceNeg, Int.reduceAdd, Int.reduceSub, reduceCtorEq]
      intro v2 h2 hv2 hk2
      have hTh : Hid (_) := hv2
      clear hv2 hk2 hqh hqs
      refine gK ?_
      exact fs_r (by simp only [RS]; rfl) eA hTh
    · rw [rx_R5 hk5]
      have key := fun (e : Env) (h : Hp) (k : Nat) (Q : Ex → St → Prop) => in31d (z := z) (set := set) (mn := mn) (mx := mx) (subs := subs) hs hk5 hA e h k Q
      generalize img (s.size + 1) (stR k0 s) A = T at *
      have kh : Hid (_) := key
      have d2 : decide (k0 = 2) = false := decide_eq_false (by omega)
      have d3 : decide (k0 = 3) = false := decide_eq_false (by omega)
      have d4 : decide (k0 = 4) = false := decide_eq_false (by omega)
      clear key ih hsub hrep hA hk hk5
      refine fn_s (F := F31) rfl ?_ (by simp only [NT, List.length_cons, List.length_nil]; omega)
      refine gK ?_
      refine kh _ _ _ _ eA eA eA eA eB eA eA (by omega) ?_
      intro e' h' k' e11 h88 ik
      clear kh
      refine gK ?_
      exact fs_r (by simp only [RS]; rfl) (by simp only [go_sem, ↓reduceIte, Nat.reduceEqDiff, Nat.reduceAdd, Nat.reduceMul, Nat.reduceSub, Nat.reduceLT, Nat.reduceLeDiff, Int.reduceEq, Int.reduceLT, Int.reduceLE, Int.reduceNeg, Int.reduceAdd, Int.reduceSub, reduceCtorEq, e11]) (k' := 89) (.inr ⟨88, true, rfl, by omega, h88⟩)
end Go.Proofs.Ytpdamhhaepcffaa.AE
/-
  regexec: the start; Match, Whole.
-/
set_option linter.unusedVariables false
set_option linter.unusedSimpArgs false
set_option maxHeartbeats 8000000
set_option maxRecDepth 100000
namespace Go.Proofs.Ytpdamhhaepcffaa.AE
open Go
/-- The set that holds i alone. -/
def at1 (n i : Nat) : List Bool := (non n).set i true
theorem at1_len (n i : Nat) : (at1 n i).length = n := by simp [at1, non]
theorem on_at1 {n i j : Nat} (hi : i < n) : On (at1 n i) j ↔ j = i := by
  unfold On at1
  rw [List.getElem?_set]
  split
  · rename_i h; subst h; simp [non, hi]
  · rename_i h
    constructor
    · intro h2; exact absurd h2 on_non
    · intro h2; exact absurd h2.symm h
theorem f29 (s : ByteArray) (hs : s.size ≤ 500) (i : Nat) (hi : i ≤ s.size) : callP (Lv xp md) 29 [.str s, .int .i64 i] = some [.own 4 1 (bl (at1 (s.size + 1) i))] := by
  refine fn_v (F := F29) rfl ?_
  have w1 := inc64 s.size (by omega)
  have p0 : List.replicate (s.size + 1) [D.bool false] = bl (non (s.size + 1)) := by unfold non; rw [bl_rep]
  have p3 := bl_set (non (s.size + 1)) i true
  have p4 : i < (non (s.size + 1)).length := by rw [non_len]; omega
  have h0 : s.size + 1 ≤ 68719476736 := by omega
  unfold at1
  generalize non (s.size + 1) = A at *
  obtain ⟨x, hx⟩ := at_lt p4
  exact gD
/-- An expression that the program takes. -/
structure Rt (r : Rx) (s : ByteArray) : Prop where
  inn : Rx.In r
  ok : rightE r = 0 → Rx.Ok r
  hs : s.size ≤ 500
theorem f16 (r : Rx) (s : ByteArray) (h : Rt r s) : callP (Lv xp md) 16 [.agg r.cells, .str s] = some [.bool (decide (rightE r = 0) && some_ (img (s.size + 1) (r.R s) (List.replicate (s.size + 1) true)))] := by
  have s27 := f27 r h.inn
  have hs := h.hs
  have hE := img_len (s.size + 1) (r.R s) (List.replicate (s.size + 1) true)
  obtain ⟨xl, xi, xt, xd, xf, xc, xz⟩ := cellsF r
  cases hv : decide (rightE r = 0) with
  | false =>
    rw [Bool.false_and]
    generalize rightE r = v at *
    refine fn_v (F := F16) rfl ?_
    exact gD
    all_goals simp_all
  | true =>
    have hv0 := of_decide_eq_true hv
    have s33 : Hid (_) := f33 (img (s.size + 1) (r.R s) (List.replicate (s.size + 1) true)) (by rw [hE]; omega)
    obtain ⟨f, caps, s28, so⟩ := f28 s hs r (h.ok hv0)
    obtain ⟨q, hq, hqs⟩ := so.c (List.replicate (s.size + 1) true) (by simp)
    have him := so.im
    rw [Bool.true_and]
    rw [hv0] at s27
    have w1 := inc64 s.size (by omega)
    have p0 : List.replicate (s.size + 1) [D.bool false] = bl (pre (List.replicate (s.size + 1) true) 0) := by rw [pre_zero, bl_rep, List.length_replicate]
    have h0 : s.size + 1 ≤ 68719476736 := by omega
    have hql : Hid (callP (Lv xp md) f (.isl (bl (List.replicate (s.size + 1) true)) :: caps) = some [q]) := hq
    have hX : ∀ j, j < s.size + 1 → (List.replicate (s.size + 1) true)[j]? = some true := fun j hj => by simp [hj]
    have hXl : (List.replicate (s.size + 1) true).length = s.size + 1 := by simp
    generalize img (s.size + 1) (r.R s) (List.replicate (s.size + 1) true) = Y at *
    have pall := pre_all (List.replicate (s.size + 1) true)
    rw [hXl] at pall
    have hXl2 : (List.replicate (s.size + 1) true).length ≤ s.size + 1 ∧ s.size + 1 ≤ (List.replicate (s.size + 1) true).length := by omega
    generalize List.replicate (s.size + 1) true = X at *
    clear hq so hv hv0 hE
    have pl : (pre X 0).length = s.size + 1 := by rw [pre_len X (by omega)]; exact hXl
    clear hXl
    refine fn_v (F := F16) rfl ?_
    refine gK ?_
    refine rn_loop (s.size + 1) (fun j st => st.e 1 = .str s ∧ st.e 2 = .ptr 0 0 0 ∧ st.e 5 = .osl 64 ∧ st.e 15 = .int .i64 (s.size + 1 : Nat) ∧ st.e 16 = .int .i64 j ∧ st.h 0 = .var r.cells true ∧ st.h 64 = .row 4 1 (bl (pre X j)) true ∧ 104 ≤ st.k) (j := 0) ⟨?_, ?_, ?_, ?_, ?_, ?_, ?_, ?_⟩ (Nat.zero_le _) ?_
    all_goals first | exact eA | exact eB | exact eO | exact eC | exact eD | skip
    rintro j ⟨e, h, k⟩ hj ⟨i1, i2, i5, i15, i16, b0, b64, ik⟩
    dsimp only at i1 i2 i5 i15 i16 b0 b64 ik
    have n1 : ∀ c, c < 104 → (c = k) = False := fun c hc => by simp; omega
    have n2 : ∀ c, c < 104 → (k = c) = False := fun c hc => by simp; omega
    rcases nextC hj with ⟨hlt, c1⟩ | ⟨rfl, c1⟩
    · have w1 := inc64 j (by omega)
      have p1 := pre_at X (j := j) (by omega)
      have p2 := pre_set (hX j hlt)
      have p3 := bl_set (pre X j) j true
      have p4 : j < (pre X j).length := by rw [pre_len X (by omega)]; omega
      rw [p2] at p3
      clear hX p2 p0 pall
      refine gK ?_
      refine ⟨by omega, ?_, ?_, ?_, ?_, ?_, ?_, ?_, ?_⟩
      all_goals first | exact eC | exact eO | exact eD | skip
    · rw [pall] at b64
      clear p0
      refine gK ?_
      have hS : SV h k (.osl 64) X := .inr ⟨64, true, rfl, by omega, b64⟩
      obtain ⟨h1, q1, f1⟩ := hS.frz
      have hz := frz1 q1 him
      refine s_stv (f := f) (caps := caps) (h1 := h1) (r0 := q) ?_ rfl ?_ f1 hql hqs ?_
      · simp only [go_sem, ↓reduceIte, Nat.reduceEqDiff, Nat.reduceAdd, Nat.reduceMul, Nat.reduceSub, Nat.reduceLT, Nat.reduceLeDiff, Int.reduceEq, Int.reduceLT, Int.reduceLE, Int.reduceNeg, Int.reduceAdd, Int.reduceSub, reduceCtorEq]
      · simp only [go_sem, ↓reduceIte, Nat.reduceEqDiff, Nat.reduceAdd, Nat.reduceMul, Nat.reduceSub, Nat.reduceLT, Nat.reduceLeDiff, Int.reduceEq, Int.reduceLT, Int.reduceLE, Int.reduceNeg, Int.reduceAdd, Int.reduceSub, reduceCtorEq]; exact hz
      intro v2 h2 hv2 hk2
      refine s_c1 hv2 eA rfl s33 ?_
      clear hz q1 f1 hS him hk2 hv2
      exact gD
theorem f18 (r : Rx) (s : ByteArray) (h : Rt r s) : ∃ b, callP (Lv xp md) 18 [.agg r.cells, .str s] = some [.bool (decide (rightE r = 0) && b)] ∧ (b = true ↔ On (img (s.size + 1) (r.R s) (at1 (s.size + 1) 0)) s.size) := by
  have s27 := f27 r h.inn
  have hs := h.hs
  have hE := img_len (s.size + 1) (r.R s) (at1 (s.size + 1) 0)
  obtain ⟨xl, xi, xt, xd, xf, xc, xz⟩ := cellsF r
  obtain ⟨b, hb⟩ := at_lt (show s.size < (img (s.size + 1) (r.R s) (at1 (s.size + 1) 0)).length by omega)
  refine ⟨b, ?_, by unfold On; rw [hb]; simp⟩
  cases hv : decide (rightE r = 0) with
  | false =>
    rw [Bool.false_and]
    clear hb hE
    generalize rightE r = v at *
    refine fn_v (F := F18) rfl ?_
    exact gD
    all_goals simp_all
  | true =>
    have hv0 := of_decide_eq_true hv
    have s29 := f29 s hs 0 (by omega)
    obtain ⟨f, caps, s28, so⟩ := f28 s hs r (h.ok hv0)
    obtain ⟨q, hq, hqs⟩ := so.c (at1 (s.size + 1) 0) (at1_len _ _)
    have him := so.im
    rw [Bool.true_and]
    rw [hv0] at s27
    have hql : Hid (callP (Lv xp md) f (.isl (bl (at1 (s.size + 1) 0)) :: caps) = some [q]) := hq
    generalize img (s.size + 1) (r.R s) (at1 (s.size + 1) 0) = Y at *
    generalize at1 (s.size + 1) 0 = X at *
    clear hq so hv hv0 hE
    refine fn_v (F := F18) rfl ?_
    refine gK ?_
    have hS : SV (hput (hput (fun x => Ob.no) 0 (Ob.var r.cells true)) 72 (Ob.row 4 1 (bl X) true)) 80 (.osl 72) X := .inr ⟨72, true, rfl, by omega, by simp only [go_sem, ↓reduceIte, Nat.reduceEqDiff, Nat.reduceAdd, Nat.reduceMul, Nat.reduceSub, Nat.reduceLT, Nat.reduceLeDiff, Int.reduceEq, Int.reduceLT, Int.reduceLE, Int.reduceNeg, Int.reduceAdd, Int.reduceSub, reduceCtorEq]⟩
    obtain ⟨h1, q1, f1⟩ := hS.frz
    have hz := frz1 q1 him
    refine s_stv (f := f) (caps := caps) (h1 := h1) (r0 := q) ?_ rfl ?_ f1 hql hqs ?_
    · simp only [go_sem, ↓reduceIte, Nat.reduceEqDiff, Nat.reduceAdd, Nat.reduceMul, Nat.reduceSub, Nat.reduceLT, Nat.reduceLeDiff, Int.reduceEq, Int.reduceLT, Int.reduceLE, Int.reduceNeg, Int.reduceAdd, Int.reduceSub, reduceCtorEq]
    · simp only [go_sem, ↓reduceIte, Nat.reduceEqDiff, Nat.reduceAdd, Nat.reduceMul, Nat.reduceSub, Nat.reduceLT, Nat.reduceLeDiff, Int.reduceEq, Int.reduceLT, Int.reduceLE, Int.reduceNeg, Int.reduceAdd, Int.reduceSub, reduceCtorEq]; exact hz
    intro v2 h2 hv2 hk2
    clear hz q1 f1 hS him hk2 hql hqs s27 s28 s29
    have p4 := (List.getElem?_eq_some_iff.1 hb).1
    rcases hv2 with rfl | ⟨o, q2, rfl, ho, hrow⟩
    · exact gD
    · exact gD
end Go.Proofs.Ytpdamhhaepcffaa.AE
/-
  regexec: Ends.
-/
set_option linter.unusedVariables false
set_option linter.unusedSimpArgs false
set_option maxHeartbeats 8000000
set_option maxRecDepth 100000
namespace Go.Proofs.Ytpdamhhaepcffaa.AE
open Go
/-- The places of a set below m, ascending. -/
def onL (Y : List Bool) : Nat → List Int
  | 0 => []
  | m + 1 => if Y[m]? = some true then onL Y m ++ [(m : Int)] else onL Y m
theorem onL_len (Y : List Bool) : ∀ m, (onL Y m).length ≤ m
  | 0 => Nat.le_refl _
  | m + 1 => by
    have := onL_len Y m
    unfold onL
    split
    · simp; omega
    · omega
theorem mem_onL {Y : List Bool} : ∀ {m : Nat} {x : Int}, x ∈ onL Y m ↔ ∃ j : Nat, x = j ∧ j < m ∧ On Y j
  | 0, x => by simp [onL]
  | m + 1, x => by
    unfold onL
    split
    · rename_i h
      simp only [List.mem_append, mem_onL, List.mem_singleton]
      constructor
      · rintro (⟨j, h1, h2, h3⟩ | rfl)
        · exact ⟨j, h1, by omega, h3⟩
        · exact ⟨m, rfl, by omega, h⟩
      · rintro ⟨j, h1, h2, h3⟩
        rcases Nat.lt_or_ge j m with h4 | h4
        · exact .inl ⟨j, h1, h4, h3⟩
        · obtain rfl : j = m := by omega
          exact .inr h1
    · rename_i h
      simp only [mem_onL]
      constructor
      · rintro ⟨j, h1, h2, h3⟩
        exact ⟨j, h1, by omega, h3⟩
      · rintro ⟨j, h1, h2, h3⟩
        rcases Nat.lt_or_ge j m with h4 | h4
        · exact ⟨j, h1, h4, h3⟩
        · obtain rfl : j = m := by omega
          exact absurd h3 h
theorem onL_asc (Y : List Bool) : ∀ m, (onL Y m).Pairwise (· < ·)
  | 0 => .nil
  | m + 1 => by
    unfold onL
    split
    · refine List.pairwise_append.2 ⟨onL_asc Y m, by simp, ?_⟩
      intro a ha b hb
      obtain ⟨j, rfl, h2, _⟩ := mem_onL.1 ha
      simp only [List.mem_singleton] at hb
      omega
    · exact onL_asc Y m
def bi (l : List Int) : List (List D) := l.map fun x => [.int .i64 x]
theorem bi_len (l : List Int) : (bi l).length = l.length := by simp [bi]
theorem bi_all (l : List Int) : ((bi l).all fun y => decide (y.length = 1)) = true := by simp [bi]
theorem bi_app (l : List Int) (x : Int) : bi l ++ [[.int .i64 x]] = bi (l ++ [x]) := by simp [bi]
theorem bi_ne {l : List Int} (h : l ≠ []) : bi l ≠ [] := by simpa [bi] using h
theorem in12a {Y : List Bool} (hY : Y.length ≤ 501) {B : Nat} (e : Env) (h : Hp) (k : Nat) (Q : Ex → St → Prop) (i7 : e 7 = .nls) (i29 : e 29 = .isl (bl Y)) (i30 : e 30 = .int .i64 Y.length) (i31 : e 31 = .int .i64 (0 : Nat)) (ik : B ≤ k)
    (hn : ∀ (e' : Env) (h' : Hp) (k' : Nat), OutX h' B k' 3 1 (bi (onL Y Y.length)) (e' 7) → Q .nrm ⟨e', h', k'⟩) : Rn xp md (.loop L12_0) ⟨e, h, k⟩ (Bk 0 Q) := by
  refine rn_loop (Y.length) (fun j st => st.e 29 = .isl (bl Y) ∧ st.e 30 = .int .i64 Y.length ∧ st.e 31 = .int .i64 j ∧ OutX st.h B st.k 3 1 (bi (onL Y j)) (st.e 7) ∧ B ≤ st.k) (j := 0) ⟨?_, ?_, ?_, .inl ⟨rfl, by simp only [go_sem, ↓reduceIte, Nat.reduceEqDiff, Nat.reduceAdd, Nat.reduceMul, Nat.reduceSub, Nat.reduceLT, Nat.reduceLeDiff, Int.reduceEq, Int.reduceLT, Int.reduceLE, Int.reduceNeg, Int.reduceAdd, Int.reduceSub, reduceCtorEq, i7]⟩, ?_⟩ (Nat.zero_le _) ?_
  all_goals first | exact eA | exact eB | exact eO | exact eC | exact eD | skip
  rintro j ⟨e, h, k⟩ hj ⟨i29, i30, i31, hv, ik⟩
  dsimp only at i29 i30 i31 hv ik
  have n1 : ∀ c, c < B → (c = k) = False := fun c hc => by simp; omega
  have n2 : ∀ c, c < B → (k = c) = False := fun c hc => by simp; omega
  rcases nextC hj with ⟨hlt, c1⟩ | ⟨rfl, c1⟩
  · obtain ⟨x, hx⟩ := at_lt hlt
    have w1 := inc64 j (by omega)
    have u1 := bi_all (onL Y j)
    have u2 := own_lim (x := (onL Y j).length) (by have := onL_len Y j; omega)
    have u4 := bi_len (onL Y j)
    clear hn
    cases x with
    | false =>
      have u3 : onL Y (j + 1) = onL Y j := by rw [onL, hx, if_neg (by simp)]
      clear u1 u2 u4
      have hv2 := hv.up (show k ≤ k + 64 by omega)
      have hvh : Hid (_) := hv
      generalize e7 : e 7 = v7 at *
      clear hv hv2
      refine gK ?_
      refine ⟨by omega, ?_, ?_, ?_, ?_, ?_⟩
      all_goals first | exact eC | exact eO | exact eD | skip
      rw [u3]
      simp only [go_sem, ↓reduceIte, Nat.reduceEqDiff, Nat.reduceAdd, Nat.reduceMul, Nat.reduceSub, Nat.reduceLT, Nat.reduceLeDiff, Int.reduceEq, Int.reduceLT, Int.reduceLE, Int.reduceNeg, Int.reduceAdd, Int.reduceSub, reduceCtorEq, e7]
      exact (show OutX _ _ _ _ _ _ _ from hvh).up (by omega)
    | true =>
      have u3 : bi (onL Y j) ++ [[D.int .i64 (j : Int)]] = bi (onL Y (j + 1)) := by rw [bi_app, onL, if_pos hx]
      have un : bi (onL Y (j + 1)) ≠ [] := by rw [← u3]; simp
      rcases hv with ⟨hO, e3⟩ | ⟨o, e3, o1, o2, ho, hne⟩
      · rw [hO, List.nil_append] at u3
        have u3h : Hid (_) := u3
        clear u1 u2 u4 hO u3
        refine gK ?_
        refine ⟨by omega, ?_, ?_, ?_, ?_, ?_⟩
        all_goals first | exact eC | exact eO | exact eD | skip
        exact .inr ⟨k + 80, by simp only [go_sem, ↓reduceIte, Nat.reduceEqDiff, Nat.reduceAdd, Nat.reduceMul, Nat.reduceSub, Nat.reduceLT, Nat.reduceLeDiff, Int.reduceEq, Int.reduceLT, Int.reduceLE, Int.reduceNeg, Int.reduceAdd, Int.reduceSub, reduceCtorEq], by omega, by simp only; omega, by rw [← (show _ = _ from u3h)]; simp only [go_sem, ↓reduceIte, Nat.reduceEqDiff, Nat.reduceAdd, Nat.reduceMul, Nat.reduceSub, Nat.reduceLT, Nat.reduceLeDiff, Int.reduceEq, Int.reduceLT, Int.reduceLE, Int.reduceNeg, Int.reduceAdd, Int.reduceSub, reduceCtorEq], un⟩
      · skip
        have m1o : ∀ c, c < B → (c = o) = False := fun c hc => by simp; omega
        have m2o : ∀ c, c < B → (o = c) = False := fun c hc => by simp; omega
        have m3o : ∀ c, (o = k + c) = False := fun c => by simp; omega
        have m4o : ∀ c, (k + c = o) = False := fun c => by simp; omega
        have m5o : (o = k) = False := by simp; omega
        have m6o : (k = o) = False := by simp; omega
        refine gK ?_
        refine ⟨by omega, ?_, ?_, ?_, ?_, ?_⟩
        all_goals first | exact eC | exact eO | exact eD | skip
        exact .inr ⟨k + 80, by simp only [go_sem, ↓reduceIte, Nat.reduceEqDiff, Nat.reduceAdd, Nat.reduceMul, Nat.reduceSub, Nat.reduceLT, Nat.reduceLeDiff, Int.reduceEq, Int.reduceLT, Int.reduceLE, Int.reduceNeg, Int.reduceAdd, Int.reduceSub, reduceCtorEq], by omega, by simp only; omega, by simp only [go_sem, ↓reduceIte, Nat.reduceEqDiff, Nat.reduceAdd, Nat.reduceMul, Nat.reduceSub, Nat.reduceLT, Nat.reduceLeDiff, Int.reduceEq, Int.reduceLT, Int.reduceLE, Int.reduceNeg, Int.reduceAdd, Int.reduceSub, reduceCtorEq, u3], un⟩
  · have hn' := fun (e' : Env) (h' : Hp) (k' : Nat) => hn e' h' k'
    have hvh : Hid (_) := hv
    generalize e7 : e 7 = v7 at *
    clear hn hv
    refine gK ?_
    refine hn' _ _ _ ?_
    simp only [go_sem, ↓reduceIte, Nat.reduceEqDiff, Nat.reduceAdd, Nat.reduceMul, Nat.reduceSub, Nat.reduceLT, Nat.reduceLeDiff, Int.reduceEq, Int.reduceLT, Int.reduceLE, Int.reduceNeg, Int.reduceAdd, Int.reduceSub, reduceCtorEq, e7]
    exact (show OutX _ _ _ _ _ _ _ from hvh).up (by omega)
theorem in12b {Y : List Bool} (hY : Y.length ≤ 501) {B : Nat} (e : Env) (h : Hp) (k : Nat) (Q : Ex → St → Prop) (i7 : e 7 = .nls) (oY : Nat) (q : Bool) (hb1 : oY < B) (i29 : e 29 = .osl oY) (h1 : h oY = .row 4 1 (bl Y) q) (i30 : e 30 = .int .i64 Y.length) (i31 : e 31 = .int .i64 (0 : Nat)) (ik : B ≤ k)
    (hn : ∀ (e' : Env) (h' : Hp) (k' : Nat), OutX h' B k' 3 1 (bi (onL Y Y.length)) (e' 7) → Q .nrm ⟨e', h', k'⟩) : Rn xp md (.loop L12_0) ⟨e, h, k⟩ (Bk 0 Q) := by
  refine rn_loop (Y.length) (fun j st => st.e 29 = .osl oY ∧ st.h oY = .row 4 1 (bl Y) q ∧ st.e 30 = .int .i64 Y.length ∧ st.e 31 = .int .i64 j ∧ OutX st.h B st.k 3 1 (bi (onL Y j)) (st.e 7) ∧ B ≤ st.k) (j := 0) ⟨?_, ?_, ?_, ?_, .inl ⟨rfl, by simp only [go_sem, ↓reduceIte, Nat.reduceEqDiff, Nat.reduceAdd, Nat.reduceMul, Nat.reduceSub, Nat.reduceLT, Nat.reduceLeDiff, Int.reduceEq, Int.reduceLT, Int.reduceLE, Int.reduceNeg, Int.reduceAdd, Int.reduceSub, reduceCtorEq, i7]⟩, ?_⟩ (Nat.zero_le _) ?_
  all_goals first | exact eA | exact eB | exact eO | exact eC | exact eD | skip
  rintro j ⟨e, h, k⟩ hj ⟨i29, boY, i30, i31, hv, ik⟩
  dsimp only at i29 boY i30 i31 hv ik
  have n1 : ∀ c, c < B → (c = k) = False := fun c hc => by simp; omega
  have n2 : ∀ c, c < B → (k = c) = False := fun c hc => by simp; omega
  rcases nextC hj with ⟨hlt, c1⟩ | ⟨rfl, c1⟩
  · obtain ⟨x, hx⟩ := at_lt hlt
    have w1 := inc64 j (by omega)
    have u1 := bi_all (onL Y j)
    have u2 := own_lim (x := (onL Y j).length) (by have := onL_len Y j; omega)
    have u4 := bi_len (onL Y j)
    clear hn
    have f1 : ∀ c, (oY = k + c) = False := fun c => by simp; omega
    have f2 : ∀ c, (k + c = oY) = False := fun c => by simp; omega
    cases x with
    | false =>
      have u3 : onL Y (j + 1) = onL Y j := by rw [onL, hx, if_neg (by simp)]
      clear u1 u2 u4
      have hv2 := hv.up (show k ≤ k + 64 by omega)
      have hvh : Hid (_) := hv
      generalize e7 : e 7 = v7 at *
      clear hv hv2
      refine gK ?_
      refine ⟨by omega, ?_, ?_, ?_, ?_, ?_, ?_⟩
      all_goals first | exact eC | exact eO | exact eD | skip
      rw [u3]
      simp only [go_sem, ↓reduceIte, Nat.reduceEqDiff, Nat.reduceAdd, Nat.reduceMul, Nat.reduceSub, Nat.reduceLT, Nat.reduceLeDiff, Int.reduceEq, Int.reduceLT, Int.reduceLE, Int.reduceNeg, Int.reduceAdd, Int.reduceSub, reduceCtorEq, e7]
      exact (show OutX _ _ _ _ _ _ _ from hvh).up (by omega)
    | true =>
      have u3 : bi (onL Y j) ++ [[D.int .i64 (j : Int)]] = bi (onL Y (j + 1)) := by rw [bi_app, onL, if_pos hx]
      have un : bi (onL Y (j + 1)) ≠ [] := by rw [← u3]; simp
      rcases hv with ⟨hO, e3⟩ | ⟨o, e3, o1, o2, ho, hne⟩
      · rw [hO, List.nil_append] at u3
        have u3h : Hid (_) := u3
        clear u1 u2 u4 hO u3
        refine gK ?_
        refine ⟨by omega, ?_, ?_, ?_, ?_, ?_, ?_⟩
        all_goals first | exact eC | exact eO | exact eD | skip
        exact .inr ⟨k + 80, by simp only [go_sem, ↓reduceIte, Nat.reduceEqDiff, Nat.reduceAdd, Nat.reduceMul, Nat.reduceSub, Nat.reduceLT, Nat.reduceLeDiff, Int.reduceEq, Int.reduceLT, Int.reduceLE, Int.reduceNeg, Int.reduceAdd, Int.reduceSub, reduceCtorEq], by omega, by simp only; omega, by rw [← (show _ = _ from u3h)]; simp only [go_sem, ↓reduceIte, Nat.reduceEqDiff, Nat.reduceAdd, Nat.reduceMul, Nat.reduceSub, Nat.reduceLT, Nat.reduceLeDiff, Int.reduceEq, Int.reduceLT, Int.reduceLE, Int.reduceNeg, Int.reduceAdd, Int.reduceSub, reduceCtorEq], un⟩
      · skip
        have m1o : ∀ c, c < B → (c = o) = False := fun c hc => by simp; omega
        have m2o : ∀ c, c < B → (o = c) = False := fun c hc => by simp; omega
        have m3o : ∀ c, (o = k + c) = False := fun c => by simp; omega
        have m4o : ∀ c, (k + c = o) = False := fun c => by simp; omega
        have m5o : (o = k) = False := by simp; omega
        have m6o : (k = o) = False := by simp; omega
        have f3 : (oY = o) = False := by simp; omega
        have f4 : (o = oY) = False := by simp; omega
        refine gK ?_
        refine ⟨by omega, ?_, ?_, ?_, ?_, ?_, ?_⟩
        all_goals first | exact eC | exact eO | exact eD | skip
        exact .inr ⟨k + 80, by simp only [go_sem, ↓reduceIte, Nat.reduceEqDiff, Nat.reduceAdd, Nat.reduceMul, Nat.reduceSub, Nat.reduceLT, Nat.reduceLeDiff, Int.reduceEq, Int.reduceLT, Int.reduceLE, Int.reduceNeg, Int.reduceAdd, Int.reduceSub, reduceCtorEq], by omega, by simp only; omega, by simp only [go_sem, ↓reduceIte, Nat.reduceEqDiff, Nat.reduceAdd, Nat.reduceMul, Nat.reduceSub, Nat.reduceLT, Nat.reduceLeDiff, Int.reduceEq, Int.reduceLT, Int.reduceLE, Int.reduceNeg, Int.reduceAdd, Int.reduceSub, reduceCtorEq, u3], un⟩
  · have hn' := fun (e' : Env) (h' : Hp) (k' : Nat) => hn e' h' k'
    have hvh : Hid (_) := hv
    generalize e7 : e 7 = v7 at *
    clear hn hv
    refine gK ?_
    refine hn' _ _ _ ?_
    simp only [go_sem, ↓reduceIte, Nat.reduceEqDiff, Nat.reduceAdd, Nat.reduceMul, Nat.reduceSub, Nat.reduceLT, Nat.reduceLeDiff, Int.reduceEq, Int.reduceLT, Int.reduceLE, Int.reduceNeg, Int.reduceAdd, Int.reduceSub, reduceCtorEq, e7]
    exact (show OutX _ _ _ _ _ _ _ from hvh).up (by omega)
noncomputable def endsL (r : Rx) (s : ByteArray) (at_ : Int) : List Int := if (decide (0 ≤ at_) && (decide (at_ ≤ s.size) && decide (rightE r = 0))) = true then onL (img (s.size + 1) (r.R s) (at1 (s.size + 1) at_.toNat)) (s.size + 1) else []
theorem f12 (r : Rx) (s : ByteArray) (h : Rt r s) (at_ : Int) : callP (Lv xp md) 12 [.agg r.cells, .str s, .int .i64 at_] = some [rdX 3 1 (bi (endsL r s at_))] := by
  have s27 := f27 r h.inn
  have hs := h.hs
  have hok := h.ok
  obtain ⟨xl, xi, xt, xd, xf, xc, xz⟩ := cellsF r
  unfold endsL
  split
  · rename_i hc
    simp only [Bool.and_eq_true, decide_eq_true_eq] at hc
    obtain ⟨c1, c2, c3⟩ := hc
    obtain ⟨i, rfl⟩ : ∃ i : Nat, at_ = i := ⟨at_.toNat, by omega⟩
    have hE := img_len (s.size + 1) (r.R s) (at1 (s.size + 1) i)
    have s29 := f29 s hs i (by omega)
    obtain ⟨f, caps, s28, so⟩ := f28 s hs r (hok c3)
    obtain ⟨q, hq, hqs⟩ := so.c (at1 (s.size + 1) i) (at1_len _ _)
    have him := so.im
    rw [c3] at s27
    rw [Int.toNat_natCast]
    have hql : Hid (callP (Lv xp md) f (.isl (bl (at1 (s.size + 1) i)) :: caps) = some [q]) := hq
    generalize img (s.size + 1) (r.R s) (at1 (s.size + 1) i) = Y at *
    generalize at1 (s.size + 1) i = X at *
    have d1 : decide ((i : Int) < 0) = false := decide_eq_false (by omega)
    have d2 : decide ((s.size : Int) < (i : Int)) = false := decide_eq_false (by omega)
    rw [← hE]
    have hY : Y.length ≤ 501 := by omega
    clear hq so c3 hE hok c1 c2
    refine fn_v (F := F12) rfl ?_
    refine gK ?_
    have hS : SV (hput (hput (fun x => Ob.no) 0 (Ob.var r.cells true)) 168 (Ob.row 4 1 (bl X) true)) 176 (.osl 168) X := .inr ⟨168, true, rfl, by omega, by simp only [go_sem, ↓reduceIte, Nat.reduceEqDiff, Nat.reduceAdd, Nat.reduceMul, Nat.reduceSub, Nat.reduceLT, Nat.reduceLeDiff, Int.reduceEq, Int.reduceLT, Int.reduceLE, Int.reduceNeg, Int.reduceAdd, Int.reduceSub, reduceCtorEq]⟩
    obtain ⟨h1, q1, f1⟩ := hS.frz
    have hz := frz1 q1 him
    refine s_stv (f := f) (caps := caps) (h1 := h1) (r0 := q) ?_ rfl ?_ f1 hql hqs ?_
    · simp only [go_sem, ↓reduceIte, Nat.reduceEqDiff, Nat.reduceAdd, Nat.reduceMul, Nat.reduceSub, Nat.reduceLT, Nat.reduceLeDiff, Int.reduceEq, Int.reduceLT, Int.reduceLE, Int.reduceNeg, Int.reduceAdd, Int.reduceSub, reduceCtorEq]
    · simp only [go_sem, ↓reduceIte, Nat.reduceEqDiff, Nat.reduceAdd, Nat.reduceMul, Nat.reduceSub, Nat.reduceLT, Nat.reduceLeDiff, Int.reduceEq, Int.reduceLT, Int.reduceLE, Int.reduceNeg, Int.reduceAdd, Int.reduceSub, reduceCtorEq]; exact hz
    intro v2 h2 hv2 hk2
    clear hz q1 f1 hS him hk2 hql hqs s27 s28 s29
    rcases hv2 with rfl | ⟨oY, q2, rfl, ho, hrow⟩
    · refine gK ?_
      refine in12a (B := 200) hY _ _ _ _ eA eA eA eB (by omega) ?_
      intro e' h' k' hv
      have hret := hv.ret
      clear hv
      exact gD
    · refine gK ?_
      refine in12b (B := 200) hY _ _ _ _ eA oY q2 (by omega) eA hrow eA eB (by omega) ?_
      intro e' h' k' hv
      have hret := hv.ret
      clear hv
      exact gD
  · rename_i hc
    have hr : rdX 3 1 (bi []) = .nls := rfl
    rw [hr]
    clear hr hok
    generalize rightE r = v at *
    refine fn_v (F := F12) rfl ?_
    by_cases c1 : 0 ≤ at_
    · have d1 : decide (at_ < 0) = false := decide_eq_false (by omega)
      by_cases c2 : at_ ≤ s.size
      · have d2 : decide ((s.size : Int) < at_) = false := decide_eq_false (by omega)
        have d3 : decide (v = 0) = false := by
          simp [c1, c2] at hc
          exact decide_eq_false hc
        clear c1 c2 hc
        exact gD
      · have d2 : decide ((s.size : Int) < at_) = true := decide_eq_true (by omega)
        clear c1 c2 hc
        exact gD
    · have d1 : decide (at_ < 0) = true := decide_eq_true (by omega)
      clear c1 hc
      exact gD
end Go.Proofs.Ytpdamhhaepcffaa.AE
/-
  regexec: search, Find.
-/
set_option linter.unusedVariables false
set_option linter.unusedSimpArgs false
set_option maxHeartbeats 8000000
set_option maxRecDepth 100000
namespace Go.Proofs.Ytpdamhhaepcffaa.AE
open Go
theorem least {P : Nat → Prop} : ∀ i, P i → ∃ i, P i ∧ ∀ i', i' < i → ¬ P i' := by
  intro i
  induction i using Nat.strongRecOn with
  | ind i ih =>
    intro h
    by_cases h2 : ∃ i', i' < i ∧ P i'
    · obtain ⟨i', h3, h4⟩ := h2
      exact ih i' h3 h4
    · exact ⟨i, h, fun i' h3 h4 => h2 ⟨i', h3, h4⟩⟩
theorem greatest {P : Nat → Prop} : ∀ n, (∃ j, j < n ∧ P j) → ∃ j, j < n ∧ P j ∧ ∀ j', j' < n → P j' → j' ≤ j
  | 0, ⟨j, h, _⟩ => absurd h (by omega)
  | n + 1, ⟨j, h, hp⟩ => by
    by_cases hn : P n
    · exact ⟨n, by omega, hn, fun j' h1 _ => by omega⟩
    · have hj : j < n := by
        rcases Nat.lt_or_ge j n with h1 | h1
        · exact h1
        · obtain rfl : j = n := by omega
          exact absurd hp hn
      obtain ⟨j2, h1, h2, h3⟩ := greatest n ⟨j, hj, hp⟩
      refine ⟨j2, by omega, h2, fun j' h4 h5 => ?_⟩
      rcases Nat.lt_or_ge j' n with h6 | h6
      · exact h3 j' h6 h5
      · obtain rfl : j' = n := by omega
        exact absurd h5 hn
/-- The first match from m on: the leftmost, and the longest of these. -/
def Fd (n : Nat) (R : Rl) (m : Nat) : Option (Nat × Nat) → Prop
  | some p => m ≤ p.1 ∧ p.1 < n ∧ p.2 < n ∧ R p.1 p.2 ∧ (∀ j, j < n → R p.1 j → j ≤ p.2) ∧ ∀ i, m ≤ i → i < p.1 → ∀ j, j < n → ¬ R i j
  | none => ∀ i, m ≤ i → i < n → ∀ j, j < n → ¬ R i j
theorem Fd.ex (n : Nat) (R : Rl) (m : Nat) : ∃ o, Fd n R m o := by
  by_cases h : ∃ i, m ≤ i ∧ i < n ∧ ∃ j, j < n ∧ R i j
  · obtain ⟨i, hi⟩ := h
    obtain ⟨i, ⟨h1, h2, h3⟩, h4⟩ := least (P := fun i => m ≤ i ∧ i < n ∧ ∃ j, j < n ∧ R i j) i hi
    obtain ⟨j, h5, h6, h7⟩ := greatest n h3
    refine ⟨some (i, j), h1, h2, h5, h6, h7, fun i' h8 h9 j' h10 h11 => h4 i' h9 ⟨h8, by dsimp only at *; omega, j', h10, h11⟩⟩
  · exact ⟨none, fun i h1 h2 j h3 h4 => h ⟨i, h1, h2, j, h3, h4⟩⟩
theorem Fd.uniq {n : Nat} {R : Rl} {m : Nat} : ∀ {o o' : Option (Nat × Nat)}, Fd n R m o → Fd n R m o' → o = o'
  | none, none, _, _ => rfl
  | some p, none, h, h' => absurd h.2.2.2.1 (h' p.1 h.1 h.2.1 p.2 h.2.2.1)
  | none, some p, h', h => absurd h.2.2.2.1 (h' p.1 h.1 h.2.1 p.2 h.2.2.1)
  | some (i, j), some (i', j'), ⟨a1, a2, a3, a4, a5, a6⟩, ⟨b1, b2, b3, b4, b5, b6⟩ => by
    dsimp only at *
    have hi : i = i' := by
      rcases Nat.lt_trichotomy i i' with h | h | h
      · exact absurd a4 (b6 i a1 h j a3)
      · exact h
      · exact absurd b4 (a6 i' b1 h j' b3)
    subst hi
    have := a5 j' b3 b4
    have := b5 j a3 a4
    rw [show j = j' by omega]
theorem on_im1 {n : Nat} {R : Rl} {i j : Nat} (hi : i < n) : On (img n R (at1 n i)) j ↔ j < n ∧ R i j := by
  rw [on_img]
  constructor
  · rintro ⟨h1, i', h2, h3⟩
    rw [on_at1 hi] at h2
    subst h2
    exact ⟨h1, h3⟩
  · rintro ⟨h1, h2⟩
    exact ⟨h1, i, (on_at1 hi).2 rfl, h2⟩
def spD (o : Option (Nat × Nat)) : D := match o with
  | none => .agg [.int .i64 0, .int .i64 0]
  | some p => .agg [.int .i64 p.1, .int .i64 p.2]
theorem in32 {g s : D} {Y : List Bool} {N i B : Nat} (hY : Y.length = N + 1) (hN : N ≤ 500) (hi : i ≤ N) (e : Env) (h : Hp) (k : Nat) (Q : Ex → St → Prop) (i0 : e 0 = g) (i1 : e 1 = s) (i6 : e 6 = .ptr 0 0 0) (i7 : e 7 = .bool false) (i8 : e 8 = .int .i64 i) (hS : SV h B (e 9) Y) (i10 : e 10 = .int .i64 ((N : Int) - (0 : Nat))) (b0 : h 0 = .var [.int .i64 0, .int .i64 0] true) (ik : B ≤ k) (hB : 1 ≤ B)
    (hr : ∀ (e' : Env) (h' : Hp) (k' : Nat) (j : Nat), On Y j → i ≤ j → (∀ j', On Y j' → j' ≤ j) → e' 6 = .ptr 0 0 0 → e' 7 = .bool true → h' 0 = .var [.int .i64 i, .int .i64 j] true → Q .ret ⟨e', h', k'⟩)
    (hn : ∀ (e' : Env) (h' : Hp) (k' : Nat), (∀ j', i ≤ j' → ¬ On Y j') → e' 0 = g → e' 1 = s → e' 6 = .ptr 0 0 0 → e' 7 = .bool false → e' 8 = .int .i64 i → h' 0 = .var [.int .i64 0, .int .i64 0] true → k ≤ k' → Q .nrm ⟨e', h', k'⟩) : Rn xp md (.loop L32_0) ⟨e, h, k⟩ (Bk 2 Q) := by
  have hY2 : Y.length ≤ N + 1 ∧ N + 1 ≤ Y.length := by omega
  clear hY
  generalize hk0 : k = k0 at *
  have hkk : k0 ≤ k := by omega
  rw [← hk0] at ik ⊢
  clear hk0
  refine rn_loop (N + 1 - i) (fun c st => st.e 0 = g ∧ st.e 1 = s ∧ st.e 6 = .ptr 0 0 0 ∧ st.e 7 = .bool false ∧ st.e 8 = .int .i64 i ∧ st.e 10 = .int .i64 ((N : Int) - (c : Nat)) ∧ st.h 0 = .var [.int .i64 0, .int .i64 0] true ∧ (∀ j, N < j + c → ¬ On Y j) ∧ SV st.h B (st.e 9) Y ∧ k0 ≤ st.k) (j := 0) ⟨?_, ?_, ?_, ?_, ?_, ?_, ?_, fun j hj ho => absurd (on_lt ho) (by omega), hS, ?_⟩ (Nat.zero_le _) ?_
  all_goals first | exact eA | exact eB | exact eO | exact eC | exact eD | skip
  rintro c ⟨e, h, k⟩ hc ⟨i0, i1, i6, i7, i8, i10, b0, iv, hv, ik⟩
  dsimp only at i0 i1 i6 i7 i8 i10 b0 hv ik
  have n1 : ∀ c, c < k0 → (c = k) = False := fun c hc => by simp; omega
  have n2 : ∀ c, c < k0 → (k = c) = False := fun c hc => by simp; omega
  rcases Nat.lt_or_ge c (N + 1 - i) with hlt | hge
  · obtain ⟨d, hd⟩ : ∃ d : Nat, (N : Int) - (c : Nat) = (d : Int) := ⟨N - c, by omega⟩
    obtain ⟨y, hy⟩ := at_lt (show d < Y.length by omega)
    have p4 : d < Y.length := by omega
    have c1 : decide ((d : Int) ≥ (i : Int)) = true := decide_eq_true (by omega)
    have c1b : decide ((i : Int) ≤ (d : Int)) = true := decide_eq_true (by omega)
    have w1 : IntKind.i64.wrap ((d : Int) - 1) = (N : Int) - ((c + 1 : Nat) : Int) := by
      have hw : (d : Int) - 1 = (N : Int) - ((c + 1 : Nat) : Int) := by omega
      rw [hw]
      exact wrapN (by omega) (by omega)
    rw [hd] at i10
    cases y with
    | true =>
      have hr' := fun (e' : Env) (h' : Hp) (k' : Nat) => hr e' h' k' d hy (by omega) (fun j' h1 => by
        rcases Nat.lt_or_ge d j' with h2 | h2
        · exact absurd h1 (iv j' (by omega))
        · exact h2)
      clear hr hn iv w1
      rcases hv with e9 | ⟨o, q2, e9, ho, hrow⟩
      · refine gK ?_
        exact rn_ret (hr' _ _ _ (by simp only [go_sem, ↓reduceIte, Nat.reduceEqDiff, Nat.reduceAdd, Nat.reduceMul, Nat.reduceSub, Nat.reduceLT, Nat.reduceLeDiff, Int.reduceEq, Int.reduceLT, Int.reduceLE, Int.reduceNeg, Int.reduceAdd, Int.reduceSub, reduceCtorEq, i6]) eA eA)
      · refine gK ?_
        exact rn_ret (hr' _ _ _ (by simp only [go_sem, ↓reduceIte, Nat.reduceEqDiff, Nat.reduceAdd, Nat.reduceMul, Nat.reduceSub, Nat.reduceLT, Nat.reduceLeDiff, Int.reduceEq, Int.reduceLT, Int.reduceLE, Int.reduceNeg, Int.reduceAdd, Int.reduceSub, reduceCtorEq, i6]) eA eA)
    | false =>
      have iv2 : ∀ j, N < j + (c + 1) → ¬ On Y j := fun j hj ho => by
        rcases Nat.lt_or_ge N (j + c) with h1 | h1
        · exact iv j h1 ho
        · obtain rfl : j = d := by omega
          rw [On, hy] at ho
          cases ho
      clear iv hr hn
      rcases hv with e9 | ⟨o, q2, e9, ho, hrow⟩
      · refine gK ?_
        refine ⟨by omega, ?_, ?_, ?_, ?_, ?_, ?_, ?_, iv2, ?_, ?_⟩
        all_goals first | exact eC | exact eO | exact eD | skip
        exact .inl (by simp only [go_sem, ↓reduceIte, Nat.reduceEqDiff, Nat.reduceAdd, Nat.reduceMul, Nat.reduceSub, Nat.reduceLT, Nat.reduceLeDiff, Int.reduceEq, Int.reduceLT, Int.reduceLE, Int.reduceNeg, Int.reduceAdd, Int.reduceSub, reduceCtorEq, e9])
      · refine gK ?_
        refine ⟨by omega, ?_, ?_, ?_, ?_, ?_, ?_, ?_, iv2, ?_, ?_⟩
        all_goals first | exact eC | exact eO | exact eD | skip
        exact .inr ⟨o, q2, by simp only [go_sem, ↓reduceIte, Nat.reduceEqDiff, Nat.reduceAdd, Nat.reduceMul, Nat.reduceSub, Nat.reduceLT, Nat.reduceLeDiff, Int.reduceEq, Int.reduceLT, Int.reduceLE, Int.reduceNeg, Int.reduceAdd, Int.reduceSub, reduceCtorEq, e9], ho, hrow⟩
  · have hc : c = N + 1 - i := by omega
    have c1 : decide ((N : Int) - (c : Nat) ≥ (i : Int)) = false := decide_eq_false (by omega)
    have c1b : decide ((i : Int) ≤ (N : Int) - (c : Nat)) = false := decide_eq_false (by omega)
    have hn' := fun (e' : Env) (h' : Hp) (k' : Nat) => hn e' h' k' (fun j' h1 => iv j' (by omega))
    clear hr hn iv hv hc
    refine gK ?_
    refine hn' _ _ _ ?_ ?_ ?_ ?_ ?_ ?_ ?_ <;> first | omega | (simp only [go_sem, ↓reduceIte, Nat.reduceEqDiff, Nat.reduceAdd, Nat.reduceMul, Nat.reduceSub, Nat.reduceLT, Nat.reduceLeDiff, Int.reduceEq, Int.reduceLT, Int.reduceLE, Int.reduceNeg, Int.reduceAdd, Int.reduceSub, reduceCtorEq, *]; done) | (simp only; omega) | assumption
theorem f32 {s : ByteArray} (hs : s.size ≤ 500) {f : Nat} {caps : List D} {R : Rl} (so : StepOk (s.size + 1) f caps R) (hR : Wf (s.size + 1) R) (at_ : Int) {o : Option (Nat × Nat)} (ho : Fd (s.size + 1) R at_.toNat o) : callP (Lv xp md) 32 [.fn f caps, .str s, .int .i64 at_] = some [spD o, .bool o.isSome] := by
  obtain ⟨m, hm⟩ : ∃ m : Nat, max at_ 0 = (m : Int) := ⟨(max at_ 0).toNat, by omega⟩
  have hm2 : at_.toNat = m := by omega
  rw [hm2] at ho
  clear hm2
  refine fn_v (F := F32) rfl ?_
  refine gK ?_
  refine rn_loop (s.size + 1 - m) (fun c st => st.e 0 = .fn f caps ∧ st.e 1 = .str s ∧ st.e 6 = .ptr 0 0 0 ∧ st.e 7 = .bool false ∧ st.e 8 = .int .i64 (m + c : Nat) ∧ st.h 0 = .var [.int .i64 0, .int .i64 0] true ∧ (∀ i, m ≤ i → i < m + c → ∀ j, j < s.size + 1 → ¬ R i j) ∧ 40 ≤ st.k) (j := 0) ⟨?_, ?_, ?_, ?_, ?_, ?_, fun i h1 h2 => absurd h2 (by omega), ?_⟩ (Nat.zero_le _) ?_
  all_goals first | exact eA | exact eB | exact eO | exact eC | exact eD | skip
  rintro c ⟨e, h, k⟩ hc ⟨i0, i1, i6, i7, i8, b0, iv, ik⟩
  dsimp only at i0 i1 i6 i7 i8 b0 ik
  have n1 : ∀ c, c < 40 → (c = k) = False := fun c hc => by simp; omega
  have n2 : ∀ c, c < 40 → (k = c) = False := fun c hc => by simp; omega
  rcases Nat.lt_or_ge c (s.size + 1 - m) with hlt | hge
  · obtain ⟨i, hi⟩ : ∃ i, m + c = i := ⟨_, rfl⟩
    have hile : i ≤ s.size := by omega
    have d1 : decide ((i : Int) ≤ (s.size : Int)) = true := decide_eq_true (by omega)
    have w1 : IntKind.i64.wrap ((i : Int) + 1) = ((m + (c + 1) : Nat) : Int) := by rw [inc64 i (by omega), show m + (c + 1) = i + 1 by omega]
    have s29 := f29 s hs i hile
    obtain ⟨q, hq, hqs⟩ := so.c (at1 (s.size + 1) i) (at1_len _ _)
    have him := so.im
    have hql : Hid (callP (Lv xp md) f (.isl (bl (at1 (s.size + 1) i)) :: caps) = some [q]) := hq
    have hon : ∀ j, On (img (s.size + 1) R (at1 (s.size + 1) i)) j ↔ j < s.size + 1 ∧ R i j := fun j => on_im1 (by omega)
    have hE := img_len (s.size + 1) R (at1 (s.size + 1) i)
    rw [hi] at i8 iv
    generalize img (s.size + 1) R (at1 (s.size + 1) i) = Y at *
    generalize at1 (s.size + 1) i = X at *
    have hml : m ≤ i := by omega
    have hic : m + c ≤ i ∧ i ≤ m + c := by omega
    clear hq so hi hm
    have hEh : Hid (_) := hE
    clear hE
    refine gK ?_
    have b0' : (hput h (k + 56) (Ob.row 4 1 (bl X) true)) 0 = .var [.int .i64 0, .int .i64 0] true := by rw [hput_ne _ _ (by omega)]; exact b0
    have hS : SV (hput h (k + 56) (Ob.row 4 1 (bl X) true)) (k + 57) (.osl (k + 56)) X := .inr ⟨k + 56, true, rfl, by omega, by simp only [go_sem, ↓reduceIte, Nat.reduceEqDiff, Nat.reduceAdd, Nat.reduceMul, Nat.reduceSub, Nat.reduceLT, Nat.reduceLeDiff, Int.reduceEq, Int.reduceLT, Int.reduceLE, Int.reduceNeg, Int.reduceAdd, Int.reduceSub, reduceCtorEq]⟩
    obtain ⟨h1, q1, f1⟩ := hS.frz
    have hz := frz1 q1 him
    refine s_stv (f := f) (caps := caps) (h1 := h1) (r0 := q) ?_ rfl ?_ f1 hql hqs ?_
    · simp only [go_sem, ↓reduceIte, Nat.reduceEqDiff, Nat.reduceAdd, Nat.reduceMul, Nat.reduceSub, Nat.reduceLT, Nat.reduceLeDiff, Int.reduceEq, Int.reduceLT, Int.reduceLE, Int.reduceNeg, Int.reduceAdd, Int.reduceSub, reduceCtorEq]
    · exact hz
    intro v2 h2 hv2 hk2
    have b2 : h2 0 = .var [.int .i64 0, .int .i64 0] true := hk2.var b0' (by omega)
    have hvh : Hid (_) := hv2
    clear hz q1 f1 hS him hk2 hql hqs b0' hv2 b0
    refine gK ?_
    refine in32 (g := .fn f caps) (s := .str s) (Y := Y) (N := s.size) (i := i) (show _ = _ from hEh) hs hile _ _ _ _ (by simp only [go_sem, ↓reduceIte, Nat.reduceEqDiff, Nat.reduceAdd, Nat.reduceMul, Nat.reduceSub, Nat.reduceLT, Nat.reduceLeDiff, Int.reduceEq, Int.reduceLT, Int.reduceLE, Int.reduceNeg, Int.reduceAdd, Int.reduceSub, reduceCtorEq, i0]) (by simp only [go_sem, ↓reduceIte, Nat.reduceEqDiff, Nat.reduceAdd, Nat.reduceMul, Nat.reduceSub, Nat.reduceLT, Nat.reduceLeDiff, Int.reduceEq, Int.reduceLT, Int.reduceLE, Int.reduceNeg, Int.reduceAdd, Int.reduceSub, reduceCtorEq, i1]) (by simp only [go_sem, ↓reduceIte, Nat.reduceEqDiff, Nat.reduceAdd, Nat.reduceMul, Nat.reduceSub, Nat.reduceLT, Nat.reduceLeDiff, Int.reduceEq, Int.reduceLT, Int.reduceLE, Int.reduceNeg, Int.reduceAdd, Int.reduceSub, reduceCtorEq, i6]) (by simp only [go_sem, ↓reduceIte, Nat.reduceEqDiff, Nat.reduceAdd, Nat.reduceMul, Nat.reduceSub, Nat.reduceLT, Nat.reduceLeDiff, Int.reduceEq, Int.reduceLT, Int.reduceLE, Int.reduceNeg, Int.reduceAdd, Int.reduceSub, reduceCtorEq, i7]) (by simp only [go_sem, ↓reduceIte, Nat.reduceEqDiff, Nat.reduceAdd, Nat.reduceMul, Nat.reduceSub, Nat.reduceLT, Nat.reduceLeDiff, Int.reduceEq, Int.reduceLT, Int.reduceLE, Int.reduceNeg, Int.reduceAdd, Int.reduceSub, reduceCtorEq, i8]) (by simp only [go_sem, ↓reduceIte, Nat.reduceEqDiff, Nat.reduceAdd, Nat.reduceMul, Nat.reduceSub, Nat.reduceLT, Nat.reduceLeDiff, Int.reduceEq, Int.reduceLT, Int.reduceLE, Int.reduceNeg, Int.reduceAdd, Int.reduceSub, reduceCtorEq]; exact hvh) (by simp only [go_sem, ↓reduceIte, Nat.reduceEqDiff, Nat.reduceAdd, Nat.reduceMul, Nat.reduceSub, Nat.reduceLT, Nat.reduceLeDiff, Int.reduceEq, Int.reduceLT, Int.reduceLE, Int.reduceNeg, Int.reduceAdd, Int.reduceSub, reduceCtorEq]; simp) b2 (by omega) (by omega) ?_ ?_
    · intro e' h' k' j j1 j2 j3 x6 x7 x0
      have hj1 := (hon j).1 j1
      have hyes : Fd (s.size + 1) R m (some (i, j)) := ⟨hml, by dsimp only; omega, hj1.1, hj1.2, fun j' h1 h2 => j3 j' ((hon j').2 ⟨h1, h2⟩), iv⟩
      obtain rfl := ho.uniq hyes
      clear iv hon hyes ho hR hvh hEh
      rw [spD, show (some (i, j)).isSome = true from rfl]
      exact gD
    · intro e' h' k' hno x0 x1 x6 x7 x8 xh xk
      have iv2 : ∀ i, m ≤ i → i < m + (c + 1) → ∀ j, j < s.size + 1 → ¬ R i j := fun i' h1 h2 j h3 h4 => by
        rcases Nat.lt_or_ge i' i with h5 | h5
        · exact iv i' h1 h5 j h3 h4
        · obtain rfl : i' = i := by omega
          exact hno j (hR i' j (by omega) h4).1 ((hon j).2 ⟨h3, h4⟩)
      clear iv hon ho hR hvh hEh hno
      refine gK ?_
      refine ⟨by omega, ?_, ?_, ?_, ?_, ?_, ?_, iv2, ?_⟩
      all_goals first | exact eC | exact eO | exact eD | skip
  · have d1 : decide (((m + c : Nat) : Int) ≤ (s.size : Int)) = false := decide_eq_false (by omega)
    have hno : Fd (s.size + 1) R m none := fun i h1 h2 j h3 h4 => iv i h1 (by omega) j h3 h4
    obtain rfl := ho.uniq hno
    clear iv hno ho so hm
    rw [spD, show (none : Option (Nat × Nat)).isSome = false from rfl]
    exact gD
/-- What Find answers. -/
noncomputable def findO (r : Rx) (s : ByteArray) (m : Nat) : Option (Nat × Nat) := if rightE r = 0 then Classical.choose (Fd.ex (s.size + 1) (r.R s) m) else none
theorem findO_fd {r : Rx} (h : rightE r = 0) (s : ByteArray) (m : Nat) : Fd (s.size + 1) (r.R s) m (findO r s m) := by
  unfold findO
  rw [if_pos h]
  exact Classical.choose_spec (Fd.ex (s.size + 1) (r.R s) m)
theorem findO_no {r : Rx} (h : rightE r ≠ 0) (s : ByteArray) (m : Nat) : findO r s m = none := if_neg h
theorem spD_cases (o : Option (Nat × Nat)) : ∃ a b : Int, spD o = .agg [.int .i64 a, .int .i64 b] := by
  cases o with
  | none => exact ⟨0, 0, rfl⟩
  | some p => exact ⟨p.1, p.2, rfl⟩
theorem f14 (r : Rx) (s : ByteArray) (h : Rt r s) (at_ : Int) : callP (Lv xp md) 14 [.agg r.cells, .str s, .int .i64 at_] = some [spD (findO r s at_.toNat), .bool (findO r s at_.toNat).isSome] := by
  have s27 := f27 r h.inn
  have hs := h.hs
  have hok := h.ok
  obtain ⟨xl, xi, xt, xd, xf, xc, xz⟩ := cellsF r
  by_cases hv : rightE r = 0
  · obtain ⟨f, caps, s28, so⟩ := f28 s hs r (hok hv)
    have him := so.im
    have s32 := f32 hs so (Rx.wf s r) at_ (findO_fd hv s at_.toNat)
    rw [hv] at s27
    have hfc : ∀ n h, frzL (frz (n + 1)) h caps = some (caps, h) := fun n h => frzL_imG n him
    obtain ⟨a, b, hab⟩ := spD_cases (findO r s at_.toNat)
    rw [hab] at s32 ⊢
    generalize (findO r s at_.toNat).isSome = ok at *
    clear so hv hab hok
    refine fn_v (F := F14) rfl ?_
    exact gD
  · rw [findO_no hv, spD, show (none : Option (Nat × Nat)).isSome = false from rfl]
    have hd : decide (rightE r = 0) = false := decide_eq_false hv
    clear hok hv
    generalize rightE r = v at *
    refine fn_v (F := F14) rfl ?_
    exact gD
end Go.Proofs.Ytpdamhhaepcffaa.AE
/-
  regexec: All.
-/
set_option linter.unusedVariables false
set_option linter.unusedSimpArgs false
set_option maxHeartbeats 8000000
set_option maxRecDepth 100000
namespace Go.Proofs.Ytpdamhhaepcffaa.AE
open Go
/-- The matches from m on, one after the other; a bound on their number first. -/
noncomputable def allF (r : Rx) (s : ByteArray) : Nat → Nat → List (Nat × Nat)
  | 0, _ => []
  | n + 1, m => match findO r s m with
    | none => []
    | some p => p :: allF r s n (if p.1 = p.2 then p.2 + 1 else p.2)
def sp (l : List (Nat × Nat)) : List (List D) := l.map fun p => [.int .i64 p.1, .int .i64 p.2]
theorem sp_len (l : List (Nat × Nat)) : (sp l).length = l.length := by simp [sp]
theorem sp_all (l : List (Nat × Nat)) : ((sp l).all fun y => decide (y.length = 2)) = true := by simp [sp]
theorem sp_app (l : List (Nat × Nat)) (p : Nat × Nat) : sp l ++ [[.int .i64 p.1, .int .i64 p.2]] = sp (l ++ [p]) := by simp [sp]
noncomputable def allL (r : Rx) (s : ByteArray) : List (Nat × Nat) := if rightE r = 0 then allF r s (s.size + 2) 0 else []
theorem f21 (r : Rx) (s : ByteArray) (h : Rt r s) : callP (Lv xp md) 21 [.agg r.cells, .str s] = some [rdX 32 2 (sp (allL r s))] := by
  have s27 := f27 r h.inn
  have hs := h.hs
  have hok := h.ok
  obtain ⟨xl, xi, xt, xd, xf, xc, xz⟩ := cellsF r
  unfold allL
  by_cases hv : rightE r = 0
  · rw [if_pos hv]
    obtain ⟨f, caps, s28, so⟩ := f28 s hs r (hok hv)
    have him := so.im
    have s32 : ∀ m : Nat, callP (Lv xp md) 32 [.fn f caps, .str s, .int .i64 (m : Int)] = some [spD (findO r s m), .bool (findO r s m).isSome] := fun m => f32 hs so (Rx.wf s r) (m : Int) (findO_fd hv s m)
    have hfd := fun m => findO_fd hv s m
    have hwf := Rx.wf s r
    rw [hv] at s27
    have hfc : ∀ n h, frzL (frz (n + 1)) h caps = some (caps, h) := fun n h => frzL_imG n him
    clear so hv hok
    refine fn_v (F := F21) rfl ?_
    generalize htot : allF r s (s.size + 2) 0 = tot
    refine gK ?_
    refine rn_loop (s.size + 2) (fun c st => st.e 1 = .str s ∧ st.e 6 = .fn f caps ∧ (∃ (m : Nat) (acc : List (Nat × Nat)), c ≤ m ∧ m ≤ s.size + 1 ∧ acc ++ allF r s (s.size + 2 - c) m = tot ∧ acc.length ≤ c ∧ st.e 7 = .int .i64 m ∧ OutX st.h 88 st.k 32 2 (sp acc) (st.e 5)) ∧ 88 ≤ st.k) (j := 0) ⟨?_, ?_, ⟨0, [], by omega, by omega, htot, by simp, rfl, .inl ⟨rfl, by simp only [go_sem, ↓reduceIte, Nat.reduceEqDiff, Nat.reduceAdd, Nat.reduceMul, Nat.reduceSub, Nat.reduceLT, Nat.reduceLeDiff, Int.reduceEq, Int.reduceLT, Int.reduceLE, Int.reduceNeg, Int.reduceAdd, Int.reduceSub, reduceCtorEq]⟩⟩, ?_⟩ (Nat.zero_le _) ?_
    all_goals first | exact eA | exact eB | exact eO | exact eC | exact eD | skip
    rintro c ⟨e, h, k⟩ hc ⟨i1, i6, hv, ik⟩
    dsimp only at i1 i6 hv ik
    have n1 : ∀ c, c < 88 → (c = k) = False := fun c hc => by simp; omega
    have n2 : ∀ c, c < 88 → (k = c) = False := fun c hc => by simp; omega
    obtain ⟨m, acc, hcm, hms, htot, hacl, i7, hv⟩ := hv
    obtain ⟨d, hd⟩ : ∃ d, s.size + 2 - c = d + 1 := ⟨s.size + 1 - c, by omega⟩
    rw [hd, allF] at htot
    have s32m := s32 m
    have hfdm := hfd m
    have hlt : c < s.size + 2 := by omega
    have hd2 : s.size + 2 - (c + 1) = d := by omega
    clear s32 hfd
    cases hf : findO r s m with
    | none =>
      rw [hf] at htot s32m
      rw [show (none : Option (Nat × Nat)).isSome = false from rfl, spD] at s32m
      obtain rfl : acc = tot := by simpa using htot
      clear htot hfdm hd hd2 hf hwf
      have hret := hv.ret
      have hvh : Hid (_) := hv
      clear hret
      generalize e5 : e 5 = v5 at *
      clear hv
      refine gK ?_
      refine rn_ret ?_
      have hz := (((show OutX _ _ _ _ _ _ _ from hvh).put1 (j := k + 56) (ob := .var [.int .i64 0, .int .i64 0] true) (.inl (by omega))).put1 (j := k + 56) (ob := .var [.int .i64 0, .int .i64 0] true) (.inl (by omega))).ret
      exact hz
    | some p =>
      rw [hf] at htot s32m hfdm
      obtain ⟨i, j⟩ := p
      rw [show (some (i, j)).isSome = true from rfl, spD] at s32m
      dsimp only at s32m htot
      obtain ⟨a1, a2, a3, a4, a5, a6⟩ := hfdm
      dsimp only at a1 a2 a3 a4 a5 a6
      have hij := (hwf i j a2 a4).1
      clear a5 a6 hwf hf
      have u1 := sp_all acc
      have u2 := own_lim (x := acc.length) (by omega)
      have u3 := sp_app acc (i, j)
      have u4 := sp_len acc
      dsimp only at u3
      have un : sp (acc ++ [(i, j)]) ≠ [] := by rw [← u3]; simp
      by_cases hq : i = j
      · subst hq
        rw [if_pos rfl] at htot
        have w1 := inc64 i (by omega)
        rcases hv with ⟨hO, e5⟩ | ⟨o, e5, o1, o2, ho, hne⟩
        · rw [hO, List.nil_append] at u3
          have u3h : Hid (_) := u3
          have hth : Hid (_) := htot
          clear u1 u2 u4 hO u3 htot
          have z1 : (k = k + 64) = False := by simp
          have z2 : (k = k + 56) = False := by simp
          refine gK ?_
          refine ⟨by omega, ?_, ?_, ?_, ?_⟩
          all_goals first | exact eC | exact eO | exact eD | skip
          refine ⟨i + 1, acc ++ [(i, i)], by omega, by omega, ?_, by simp; omega, by simp only [go_sem, ↓reduceIte, Nat.reduceEqDiff, Nat.reduceAdd, Nat.reduceMul, Nat.reduceSub, Nat.reduceLT, Nat.reduceLeDiff, Int.reduceEq, Int.reduceLT, Int.reduceLE, Int.reduceNeg, Int.reduceAdd, Int.reduceSub, reduceCtorEq], .inr ⟨k + 120, by simp only [go_sem, ↓reduceIte, Nat.reduceEqDiff, Nat.reduceAdd, Nat.reduceMul, Nat.reduceSub, Nat.reduceLT, Nat.reduceLeDiff, Int.reduceEq, Int.reduceLT, Int.reduceLE, Int.reduceNeg, Int.reduceAdd, Int.reduceSub, reduceCtorEq], by omega, by simp only; omega, by rw [← (show _ = _ from u3h)]; simp only [go_sem, ↓reduceIte, Nat.reduceEqDiff, Nat.reduceAdd, Nat.reduceMul, Nat.reduceSub, Nat.reduceLT, Nat.reduceLeDiff, Int.reduceEq, Int.reduceLT, Int.reduceLE, Int.reduceNeg, Int.reduceAdd, Int.reduceSub, reduceCtorEq], un⟩⟩
          rw [hd2, List.append_assoc]
          exact hth
        · skip
          have m1o : ∀ c, c < 88 → (c = o) = False := fun c hc => by simp; omega
          have m2o : ∀ c, c < 88 → (o = c) = False := fun c hc => by simp; omega
          have m3o : ∀ c, (o = k + c) = False := fun c => by simp; omega
          have m4o : ∀ c, (k + c = o) = False := fun c => by simp; omega
          have m5o : (o = k) = False := by simp; omega
          have m6o : (k = o) = False := by simp; omega
          have z1 : (k = k + 64) = False := by simp
          have z2 : (k = k + 56) = False := by simp
          have hth : Hid (_) := htot
          clear htot
          refine gK ?_
          refine ⟨by omega, ?_, ?_, ?_, ?_⟩
          all_goals first | exact eC | exact eO | exact eD | skip
          refine ⟨i + 1, acc ++ [(i, i)], by omega, by omega, ?_, by simp; omega, by simp only [go_sem, ↓reduceIte, Nat.reduceEqDiff, Nat.reduceAdd, Nat.reduceMul, Nat.reduceSub, Nat.reduceLT, Nat.reduceLeDiff, Int.reduceEq, Int.reduceLT, Int.reduceLE, Int.reduceNeg, Int.reduceAdd, Int.reduceSub, reduceCtorEq], .inr ⟨k + 120, by simp only [go_sem, ↓reduceIte, Nat.reduceEqDiff, Nat.reduceAdd, Nat.reduceMul, Nat.reduceSub, Nat.reduceLT, Nat.reduceLeDiff, Int.reduceEq, Int.reduceLT, Int.reduceLE, Int.reduceNeg, Int.reduceAdd, Int.reduceSub, reduceCtorEq], by omega, by simp only; omega, by simp only [go_sem, ↓reduceIte, Nat.reduceEqDiff, Nat.reduceAdd, Nat.reduceMul, Nat.reduceSub, Nat.reduceLT, Nat.reduceLeDiff, Int.reduceEq, Int.reduceLT, Int.reduceLE, Int.reduceNeg, Int.reduceAdd, Int.reduceSub, reduceCtorEq], un⟩⟩
          rw [hd2, List.append_assoc]
          exact hth
      · rw [if_neg hq] at htot
        have hdq : decide ((i : Int) = (j : Int)) = false := decide_eq_false (by omega)
        have hlt2 : i + 1 ≤ j := by omega
        clear hq
        rcases hv with ⟨hO, e5⟩ | ⟨o, e5, o1, o2, ho, hne⟩
        · rw [hO, List.nil_append] at u3
          have u3h : Hid (_) := u3
          have hth : Hid (_) := htot
          clear u1 u2 u4 hO u3 htot
          have z1 : (k = k + 64) = False := by simp
          have z2 : (k = k + 56) = False := by simp
          refine gK ?_
          refine ⟨by omega, ?_, ?_, ?_, ?_⟩
          all_goals first | exact eC | exact eO | exact eD | skip
          refine ⟨j, acc ++ [(i, j)], by omega, by omega, ?_, by simp; omega, by simp only [go_sem, ↓reduceIte, Nat.reduceEqDiff, Nat.reduceAdd, Nat.reduceMul, Nat.reduceSub, Nat.reduceLT, Nat.reduceLeDiff, Int.reduceEq, Int.reduceLT, Int.reduceLE, Int.reduceNeg, Int.reduceAdd, Int.reduceSub, reduceCtorEq], .inr ⟨k + 120, by simp only [go_sem, ↓reduceIte, Nat.reduceEqDiff, Nat.reduceAdd, Nat.reduceMul, Nat.reduceSub, Nat.reduceLT, Nat.reduceLeDiff, Int.reduceEq, Int.reduceLT, Int.reduceLE, Int.reduceNeg, Int.reduceAdd, Int.reduceSub, reduceCtorEq], by omega, by simp only; omega, by rw [← (show _ = _ from u3h)]; simp only [go_sem, ↓reduceIte, Nat.reduceEqDiff, Nat.reduceAdd, Nat.reduceMul, Nat.reduceSub, Nat.reduceLT, Nat.reduceLeDiff, Int.reduceEq, Int.reduceLT, Int.reduceLE, Int.reduceNeg, Int.reduceAdd, Int.reduceSub, reduceCtorEq], un⟩⟩
          rw [hd2, List.append_assoc]
          exact hth
        · skip
          have m1o : ∀ c, c < 88 → (c = o) = False := fun c hc => by simp; omega
          have m2o : ∀ c, c < 88 → (o = c) = False := fun c hc => by simp; omega
          have m3o : ∀ c, (o = k + c) = False := fun c => by simp; omega
          have m4o : ∀ c, (k + c = o) = False := fun c => by simp; omega
          have m5o : (o = k) = False := by simp; omega
          have m6o : (k = o) = False := by simp; omega
          have z1 : (k = k + 64) = False := by simp
          have z2 : (k = k + 56) = False := by simp
          have hth : Hid (_) := htot
          clear htot
          refine gK ?_
          refine ⟨by omega, ?_, ?_, ?_, ?_⟩
          all_goals first | exact eC | exact eO | exact eD | skip
          refine ⟨j, acc ++ [(i, j)], by omega, by omega, ?_, by simp; omega, by simp only [go_sem, ↓reduceIte, Nat.reduceEqDiff, Nat.reduceAdd, Nat.reduceMul, Nat.reduceSub, Nat.reduceLT, Nat.reduceLeDiff, Int.reduceEq, Int.reduceLT, Int.reduceLE, Int.reduceNeg, Int.reduceAdd, Int.reduceSub, reduceCtorEq], .inr ⟨k + 120, by simp only [go_sem, ↓reduceIte, Nat.reduceEqDiff, Nat.reduceAdd, Nat.reduceMul, Nat.reduceSub, Nat.reduceLT, Nat.reduceLeDiff, Int.reduceEq, Int.reduceLT, Int.reduceLE, Int.reduceNeg, Int.reduceAdd, Int.reduceSub, reduceCtorEq], by omega, by simp only; omega, by simp only [go_sem, ↓reduceIte, Nat.reduceEqDiff, Nat.reduceAdd, Nat.reduceMul, Nat.reduceSub, Nat.reduceLT, Nat.reduceLeDiff, Int.reduceEq, Int.reduceLT, Int.reduceLE, Int.reduceNeg, Int.reduceAdd, Int.reduceSub, reduceCtorEq], un⟩⟩
          rw [hd2, List.append_assoc]
          exact hth
  · rw [if_neg hv]
    have hd : decide (rightE r = 0) = false := decide_eq_false hv
    have hr : rdX 32 2 (sp []) = .nls := rfl
    rw [hr]
    clear hok hv hr
    generalize rightE r = v at *
    refine fn_v (F := F21) rfl ?_
    exact gD
end Go.Proofs.Ytpdamhhaepcffaa.AE
/-
  regexec: cat, set.
-/
set_option linter.unusedVariables false
set_option linter.unusedSimpArgs false
set_option maxHeartbeats 8000000
set_option maxRecDepth 100000
namespace Go.Proofs.Ytpdamhhaepcffaa.AE
open Go
theorem f26 (c : Int) : callP (Lv xp md) 26 [.int .u8 c] = some [.agg [.int .i64 1, .isl [[.int .u8 c, .int .u8 c]], .int .i64 0, .int .i64 0, .nls]] := by
  refine fn_v (F := F26) rfl ?_
  exact gD
theorem f23 (xs : List (List D)) (hx : D.im (.isl xs) = true) : callP (Lv xp md) 23 [.isl xs] = some [.agg [.int .i64 2, .nls, .int .i64 0, .int .i64 0, .isl xs]] := by
  refine fn_v (F := F23) rfl ?_
  exact gD
/-- A list of whole numbers as a value that is read. -/
def IsI (v : D) (l : List Int) : Prop := v = .isl (bi l) ∨ (v = .nls ∧ l = [])
theorem bi_at (l : List Int) (j : Nat) : (bi l)[j]? = l[j]?.map fun x => [.int .i64 x] := by simp [bi]
theorem f25 (l : List Int) (x : Int) (hl : l.length ≤ 1000) : callP (Lv xp md) 25 [.isl (bi l), .int .i64 x] = some [.bool (l.any fun y => decide (y = x))] := by
  refine fn_v (F := F25) rfl ?_
  have b1 := bi_len l
  have b2 := bi_at l
  refine gK ?_
  refine rn_loop (l.length) (fun j st => st.e 0 = .isl (bi l) ∧ st.e 1 = .int .i64 x ∧ st.e 5 = .int .i64 j ∧ (∀ i y, i < j → l[i]? = some y → decide (y = x) = false)) (j := 0) ⟨?_, ?_, ?_, fun i y hi => by omega⟩ (Nat.zero_le _) ?_
  all_goals first | exact eA | exact eB | exact eO | exact eC | exact eD | skip
  rintro j ⟨e, h, k⟩ hj ⟨i0, i1, i5, iv⟩
  dsimp only at i0 i1 i5
  rcases nextC hj with ⟨hlt, c1⟩ | ⟨rfl, c1⟩
  · obtain ⟨y, hy⟩ := at_lt hlt
    have w1 := inc64 j (by omega)
    cases hd : decide (y = x) with
    | true =>
      rw [any_yes (p := fun y => decide (y = x)) hy hd]
      clear iv
      exact gD
    | false =>
      have iv2 := before_succ (p := fun y => decide (y = x) = false) hy hd iv
      clear iv
      refine gK ?_
      refine ⟨by omega, ?_, ?_, ?_, iv2⟩
      all_goals first | exact eC | exact eO | exact eD | skip
  · rw [any_no (p := fun y => decide (y = x)) iv]
    clear iv
    exact gD
theorem f25n (x : Int) : callP (Lv xp md) 25 [.nls, .int .i64 x] = some [.bool false] := by
  refine fn_v (F := F25) rfl ?_
  refine gK ?_
  refine rn_loop (1) (fun j st => st.e 0 = .nls ∧ st.e 1 = .int .i64 x ∧ st.e 5 = .int .i64 (0 : Nat)) (j := 0) ⟨?_, ?_, ?_⟩ (Nat.zero_le _) ?_
  all_goals first | exact eA | exact eB | exact eO | exact eC | exact eD | skip
  rintro j ⟨e, h, k⟩ hj ⟨i0, i1, i5⟩
  dsimp only at i0 i1 i5
  have c1 : decide (((0 : Nat) : Int) < ((0 : Nat) : Int)) = false := by decide
  exact gD
theorem isI_f25 {v : D} {l : List Int} (hv : IsI v l) (x : Int) (hl : l.length ≤ 1000) : callP (Lv xp md) 25 [v, .int .i64 x] = some [.bool (l.any fun y => decide (y = x))] := by
  rcases hv with rfl | ⟨rfl, rfl⟩
  · exact f25 l x hl
  · exact f25n x
theorem f11a (A B : List Int) (hA : A.length ≤ 1000) (hB : B.length ≤ 1000) : callP (Lv xp md) 11 [.isl (bi A), .isl (bi B)] = some [.bool (decide (A = B))] := by
  refine fn_v (F := F11) rfl ?_
  have b1 := bi_len A
  have b2 := bi_at A
  have b3 := bi_len B
  have b4 := bi_at B
  by_cases hl : A.length = B.length
  · have d1 : decide ((A.length : Int) = (B.length : Int)) = true := by simp [hl]
    have hlb : A.length ≤ B.length ∧ B.length ≤ A.length := by omega
    clear hl
    refine gK ?_
    refine rn_loop (A.length) (fun j st => st.e 0 = .isl (bi A) ∧ st.e 1 = .isl (bi B) ∧ st.e 5 = .int .i64 j ∧ (∀ i x, i < j → A[i]? = some x → B[i]? = some x)) (j := 0) ⟨?_, ?_, ?_, fun i x hi => by omega⟩ (Nat.zero_le _) ?_
    all_goals first | exact eA | exact eB | exact eO | exact eC | exact eD | skip
    rintro j ⟨e, h, k⟩ hj ⟨i0, i1, i5, iv⟩
    dsimp only at i0 i1 i5
    rcases nextC hj with ⟨hlt, c1⟩ | ⟨rfl, c1⟩
    · obtain ⟨x, hx⟩ := at_lt hlt
      obtain ⟨y, hy⟩ := at_lt (show j < B.length by omega)
      have w1 := inc64 j (by omega)
      clear d1
      cases hd : decide (x = y) with
      | true =>
        obtain rfl := of_decide_eq_true hd
        have iv2 : ∀ i z, i < j + 1 → A[i]? = some z → B[i]? = some z := fun i z hi hz => by
          rcases Nat.lt_or_ge i j with h1 | h1
          · exact iv i z h1 hz
          · obtain rfl : i = j := by omega
            rw [hy, ← hx, hz]
        clear iv
        refine gK ?_
        refine ⟨by omega, ?_, ?_, ?_, iv2⟩
        all_goals first | exact eC | exact eO | exact eD | skip
      | false =>
        have hne : decide (A = B) = false := decide_eq_false fun h => by
          subst h
          rw [hx] at hy
          exact of_decide_eq_false hd (Option.some.inj hy)
        rw [hne]
        clear iv hne
        exact gD
    · have he : decide (A = B) = true := decide_eq_true (List.ext_getElem? fun i => by
        rcases Nat.lt_or_ge i A.length with h1 | h1
        · obtain ⟨z, hz⟩ := at_lt h1
          rw [hz, iv i z h1 hz]
        · rw [List.getElem?_eq_none h1, List.getElem?_eq_none (by omega)])
      rw [he]
      clear iv he
      exact gD
  · have d1 : decide ((A.length : Int) = (B.length : Int)) = false := decide_eq_false (by omega)
    have hne : decide (A = B) = false := decide_eq_false fun h => hl (by rw [h])
    rw [hne]
    clear hl hne
    exact gD
end Go.Proofs.Ytpdamhhaepcffaa.AE
/-
  regexec: the reference's Ends, Match, Whole.
-/
set_option linter.unusedVariables false
set_option linter.unusedSimpArgs false
set_option maxHeartbeats 8000000
set_option maxRecDepth 100000
namespace Go.Proofs.Ytpdamhhaepcffaa.AE
open Go
theorem in13a {Y : List Bool} (hY : Y.length ≤ 501) {B : Nat} (e : Env) (h : Hp) (k : Nat) (Q : Ex → St → Prop) (i9 : e 9 = .nls) (i8 : e 8 = .isl (bl Y)) (i10 : e 10 = .int .i64 (0 : Nat)) (ik : B ≤ k)
    (hn : ∀ (e' : Env) (h' : Hp) (k' : Nat), OutX h' B k' 3 1 (bi (onL Y Y.length)) (e' 9) → Q .nrm ⟨e', h', k'⟩) : Rn xp md (.loop L13_0) ⟨e, h, k⟩ (Bk 0 Q) := by
  refine rn_loop (Y.length) (fun j st => st.e 8 = .isl (bl Y) ∧ st.e 10 = .int .i64 j ∧ OutX st.h B st.k 3 1 (bi (onL Y j)) (st.e 9) ∧ B ≤ st.k) (j := 0) ⟨?_, ?_, .inl ⟨rfl, by simp only [go_sem, ↓reduceIte, Nat.reduceEqDiff, Nat.reduceAdd, Nat.reduceMul, Nat.reduceSub, Nat.reduceLT, Nat.reduceLeDiff, Int.reduceEq, Int.reduceLT, Int.reduceLE, Int.reduceNeg, Int.reduceAdd, Int.reduceSub, reduceCtorEq, i9]⟩, ?_⟩ (Nat.zero_le _) ?_
  all_goals first | exact eA | exact eB | exact eO | exact eC | exact eD | skip
  rintro j ⟨e, h, k⟩ hj ⟨i8, i10, hv, ik⟩
  dsimp only at i8 i10 hv ik
  have n1 : ∀ c, c < B → (c = k) = False := fun c hc => by simp; omega
  have n2 : ∀ c, c < B → (k = c) = False := fun c hc => by simp; omega
  rcases nextC hj with ⟨hlt, c1⟩ | ⟨rfl, c1⟩
  · obtain ⟨x, hx⟩ := at_lt hlt
    have w1 := inc64 j (by omega)
    have u1 := bi_all (onL Y j)
    have u2 := own_lim (x := (onL Y j).length) (by have := onL_len Y j; omega)
    have u4 := bi_len (onL Y j)
    clear hn
    cases x with
    | false =>
      have u3 : onL Y (j + 1) = onL Y j := by rw [onL, hx, if_neg (by simp)]
      clear u1 u2 u4
      have hvh : Hid (_) := hv
      generalize e9 : e 9 = v7 at *
      clear hv
      refine gK ?_
      refine ⟨by omega, ?_, ?_, ?_, ?_⟩
      all_goals first | exact eC | exact eO | exact eD | skip
      rw [u3]
      simp only [go_sem, ↓reduceIte, Nat.reduceEqDiff, Nat.reduceAdd, Nat.reduceMul, Nat.reduceSub, Nat.reduceLT, Nat.reduceLeDiff, Int.reduceEq, Int.reduceLT, Int.reduceLE, Int.reduceNeg, Int.reduceAdd, Int.reduceSub, reduceCtorEq, e9]
      exact (show OutX _ _ _ _ _ _ _ from hvh).up (by omega)
    | true =>
      have u3 : bi (onL Y j) ++ [[D.int .i64 (j : Int)]] = bi (onL Y (j + 1)) := by rw [bi_app, onL, if_pos hx]
      have un : bi (onL Y (j + 1)) ≠ [] := by rw [← u3]; simp
      rcases hv with ⟨hO, e3⟩ | ⟨o, e3, o1, o2, ho, hne⟩
      · rw [hO, List.nil_append] at u3
        have u3h : Hid (_) := u3
        clear u1 u2 u4 hO u3
        refine gK ?_
        refine ⟨by omega, ?_, ?_, ?_, ?_⟩
        all_goals first | exact eC | exact eO | exact eD | skip
        exact .inr ⟨k + 88, by simp only [go_sem, ↓reduceIte, Nat.reduceEqDiff, Nat.reduceAdd, Nat.reduceMul, Nat.reduceSub, Nat.reduceLT, Nat.reduceLeDiff, Int.reduceEq, Int.reduceLT, Int.reduceLE, Int.reduceNeg, Int.reduceAdd, Int.reduceSub, reduceCtorEq], by omega, by simp only; omega, by rw [← (show _ = _ from u3h)]; simp only [go_sem, ↓reduceIte, Nat.reduceEqDiff, Nat.reduceAdd, Nat.reduceMul, Nat.reduceSub, Nat.reduceLT, Nat.reduceLeDiff, Int.reduceEq, Int.reduceLT, Int.reduceLE, Int.reduceNeg, Int.reduceAdd, Int.reduceSub, reduceCtorEq], un⟩
      · skip
        have m1o : ∀ c, c < B → (c = o) = False := fun c hc => by simp; omega
        have m2o : ∀ c, c < B → (o = c) = False := fun c hc => by simp; omega
        have m3o : ∀ c, (o = k + c) = False := fun c => by simp; omega
        have m4o : ∀ c, (k + c = o) = False := fun c => by simp; omega
        have m5o : (o = k) = False := by simp; omega
        have m6o : (k = o) = False := by simp; omega
        refine gK ?_
        refine ⟨by omega, ?_, ?_, ?_, ?_⟩
        all_goals first | exact eC | exact eO | exact eD | skip
        exact .inr ⟨k + 88, by simp only [go_sem, ↓reduceIte, Nat.reduceEqDiff, Nat.reduceAdd, Nat.reduceMul, Nat.reduceSub, Nat.reduceLT, Nat.reduceLeDiff, Int.reduceEq, Int.reduceLT, Int.reduceLE, Int.reduceNeg, Int.reduceAdd, Int.reduceSub, reduceCtorEq], by omega, by simp only; omega, by simp only [go_sem, ↓reduceIte, Nat.reduceEqDiff, Nat.reduceAdd, Nat.reduceMul, Nat.reduceSub, Nat.reduceLT, Nat.reduceLeDiff, Int.reduceEq, Int.reduceLT, Int.reduceLE, Int.reduceNeg, Int.reduceAdd, Int.reduceSub, reduceCtorEq, u3], un⟩
  · have hn' := fun (e' : Env) (h' : Hp) (k' : Nat) => hn e' h' k'
    have hvh : Hid (_) := hv
    generalize e9 : e 9 = v7 at *
    clear hn hv
    refine gK ?_
    refine hn' _ _ _ ?_
    simp only [go_sem, ↓reduceIte, Nat.reduceEqDiff, Nat.reduceAdd, Nat.reduceMul, Nat.reduceSub, Nat.reduceLT, Nat.reduceLeDiff, Int.reduceEq, Int.reduceLT, Int.reduceLE, Int.reduceNeg, Int.reduceAdd, Int.reduceSub, reduceCtorEq, e9]
    exact (show OutX _ _ _ _ _ _ _ from hvh).up (by omega)
theorem in13b {Y : List Bool} (hY : Y.length ≤ 501) {B : Nat} (e : Env) (h : Hp) (k : Nat) (Q : Ex → St → Prop) (i9 : e 9 = .nls) (oY : Nat) (q : Bool) (hb1 : oY < B) (i8 : e 8 = .osl oY) (h1 : h oY = .row 4 1 (bl Y) q) (i10 : e 10 = .int .i64 (0 : Nat)) (ik : B ≤ k)
    (hn : ∀ (e' : Env) (h' : Hp) (k' : Nat), OutX h' B k' 3 1 (bi (onL Y Y.length)) (e' 9) → Q .nrm ⟨e', h', k'⟩) : Rn xp md (.loop L13_0) ⟨e, h, k⟩ (Bk 0 Q) := by
  refine rn_loop (Y.length) (fun j st => st.e 8 = .osl oY ∧ st.h oY = .row 4 1 (bl Y) q ∧ st.e 10 = .int .i64 j ∧ OutX st.h B st.k 3 1 (bi (onL Y j)) (st.e 9) ∧ B ≤ st.k) (j := 0) ⟨?_, ?_, ?_, .inl ⟨rfl, by simp only [go_sem, ↓reduceIte, Nat.reduceEqDiff, Nat.reduceAdd, Nat.reduceMul, Nat.reduceSub, Nat.reduceLT, Nat.reduceLeDiff, Int.reduceEq, Int.reduceLT, Int.reduceLE, Int.reduceNeg, Int.reduceAdd, Int.reduceSub, reduceCtorEq, i9]⟩, ?_⟩ (Nat.zero_le _) ?_
  all_goals first | exact eA | exact eB | exact eO | exact eC | exact eD | skip
  rintro j ⟨e, h, k⟩ hj ⟨i8, boY, i10, hv, ik⟩
  dsimp only at i8 boY i10 hv ik
  have n1 : ∀ c, c < B → (c = k) = False := fun c hc => by simp; omega
  have n2 : ∀ c, c < B → (k = c) = False := fun c hc => by simp; omega
  rcases nextC hj with ⟨hlt, c1⟩ | ⟨rfl, c1⟩
  · obtain ⟨x, hx⟩ := at_lt hlt
    have w1 := inc64 j (by omega)
    have u1 := bi_all (onL Y j)
    have u2 := own_lim (x := (onL Y j).length) (by have := onL_len Y j; omega)
    have u4 := bi_len (onL Y j)
    clear hn
    have f1 : ∀ c, (oY = k + c) = False := fun c => by simp; omega
    have f2 : ∀ c, (k + c = oY) = False := fun c => by simp; omega
    cases x with
    | false =>
      have u3 : onL Y (j + 1) = onL Y j := by rw [onL, hx, if_neg (by simp)]
      clear u1 u2 u4
      have hvh : Hid (_) := hv
      generalize e9 : e 9 = v7 at *
      clear hv
      refine gK ?_
      refine ⟨by omega, ?_, ?_, ?_, ?_, ?_⟩
      all_goals first | exact eC | exact eO | exact eD | skip
      rw [u3]
      simp only [go_sem, ↓reduceIte, Nat.reduceEqDiff, Nat.reduceAdd, Nat.reduceMul, Nat.reduceSub, Nat.reduceLT, Nat.reduceLeDiff, Int.reduceEq, Int.reduceLT, Int.reduceLE, Int.reduceNeg, Int.reduceAdd, Int.reduceSub, reduceCtorEq, e9]
      exact (show OutX _ _ _ _ _ _ _ from hvh).up (by omega)
    | true =>
      have u3 : bi (onL Y j) ++ [[D.int .i64 (j : Int)]] = bi (onL Y (j + 1)) := by rw [bi_app, onL, if_pos hx]
      have un : bi (onL Y (j + 1)) ≠ [] := by rw [← u3]; simp
      rcases hv with ⟨hO, e3⟩ | ⟨o, e3, o1, o2, ho, hne⟩
      · rw [hO, List.nil_append] at u3
        have u3h : Hid (_) := u3
        clear u1 u2 u4 hO u3
        refine gK ?_
        refine ⟨by omega, ?_, ?_, ?_, ?_, ?_⟩
        all_goals first | exact eC | exact eO | exact eD | skip
        exact .inr ⟨k + 88, by simp only [go_sem, ↓reduceIte, Nat.reduceEqDiff, Nat.reduceAdd, Nat.reduceMul, Nat.reduceSub, Nat.reduceLT, Nat.reduceLeDiff, Int.reduceEq, Int.reduceLT, Int.reduceLE, Int.reduceNeg, Int.reduceAdd, Int.reduceSub, reduceCtorEq], by omega, by simp only; omega, by rw [← (show _ = _ from u3h)]; simp only [go_sem, ↓reduceIte, Nat.reduceEqDiff, Nat.reduceAdd, Nat.reduceMul, Nat.reduceSub, Nat.reduceLT, Nat.reduceLeDiff, Int.reduceEq, Int.reduceLT, Int.reduceLE, Int.reduceNeg, Int.reduceAdd, Int.reduceSub, reduceCtorEq], un⟩
      · skip
        have m1o : ∀ c, c < B → (c = o) = False := fun c hc => by simp; omega
        have m2o : ∀ c, c < B → (o = c) = False := fun c hc => by simp; omega
        have m3o : ∀ c, (o = k + c) = False := fun c => by simp; omega
        have m4o : ∀ c, (k + c = o) = False := fun c => by simp; omega
        have m5o : (o = k) = False := by simp; omega
        have m6o : (k = o) = False := by simp; omega
        have f3 : (oY = o) = False := by simp; omega
        have f4 : (o = oY) = False := by simp; omega
        refine gK ?_
        refine ⟨by omega, ?_, ?_, ?_, ?_, ?_⟩
        all_goals first | exact eC | exact eO | exact eD | skip
        exact .inr ⟨k + 88, by simp only [go_sem, ↓reduceIte, Nat.reduceEqDiff, Nat.reduceAdd, Nat.reduceMul, Nat.reduceSub, Nat.reduceLT, Nat.reduceLeDiff, Int.reduceEq, Int.reduceLT, Int.reduceLE, Int.reduceNeg, Int.reduceAdd, Int.reduceSub, reduceCtorEq], by omega, by simp only; omega, by simp only [go_sem, ↓reduceIte, Nat.reduceEqDiff, Nat.reduceAdd, Nat.reduceMul, Nat.reduceSub, Nat.reduceLT, Nat.reduceLeDiff, Int.reduceEq, Int.reduceLT, Int.reduceLE, Int.reduceNeg, Int.reduceAdd, Int.reduceSub, reduceCtorEq, u3], un⟩
  · have hn' := fun (e' : Env) (h' : Hp) (k' : Nat) => hn e' h' k'
    have hvh : Hid (_) := hv
    generalize e9 : e 9 = v7 at *
    clear hn hv
    refine gK ?_
    refine hn' _ _ _ ?_
    simp only [go_sem, ↓reduceIte, Nat.reduceEqDiff, Nat.reduceAdd, Nat.reduceMul, Nat.reduceSub, Nat.reduceLT, Nat.reduceLeDiff, Int.reduceEq, Int.reduceLT, Int.reduceLE, Int.reduceNeg, Int.reduceAdd, Int.reduceSub, reduceCtorEq, e9]
    exact (show OutX _ _ _ _ _ _ _ from hvh).up (by omega)
theorem f13 (r : Rx) (s : ByteArray) (h : Rt r s) (at_ : Int) : callP (Lv xp md) 13 [.agg r.cells, .str s, .int .i64 at_] = some [rdX 3 1 (bi (endsL r s at_))] := by
  have s24 := f24 r h.inn
  have hs := h.hs
  have hok := h.ok
  obtain ⟨xl, xi, xt, xd, xf, xc, xz⟩ := cellsF r
  unfold endsL
  split
  · rename_i hc
    simp only [Bool.and_eq_true, decide_eq_true_eq] at hc
    obtain ⟨c1, c2, c3⟩ := hc
    obtain ⟨i, rfl⟩ : ∃ i : Nat, at_ = i := ⟨at_.toNat, by omega⟩
    have hE := img_len (s.size + 1) (r.R s) (at1 (s.size + 1) i)
    have s30 := f30 s (by omega)
    obtain ⟨q, hq, hqs⟩ := stp s hs r (hok c3) (at1 (s.size + 1) i) (at1_len _ _)
    rw [c3] at s24
    rw [Int.toNat_natCast]
    have p3 := bl_set (non (s.size + 1)) i true
    have p4 : i < (non (s.size + 1)).length := by rw [non_len]; omega
    rw [show (non (s.size + 1)).set i true = at1 (s.size + 1) i from rfl] at p3
    have hql : Hid (callP (Lv xp md) 31 [.agg r.cells, .str s, .isl (bl (at1 (s.size + 1) i))] = some [q]) := hq
    generalize img (s.size + 1) (r.R s) (at1 (s.size + 1) i) = Y at *
    generalize at1 (s.size + 1) i = X at *
    generalize non (s.size + 1) = Z at *
    obtain ⟨zx, hzx⟩ := at_lt p4
    have d1 : decide ((i : Int) < 0) = false := decide_eq_false (by omega)
    have d2 : decide ((s.size : Int) < (i : Int)) = false := decide_eq_false (by omega)
    rw [← hE]
    have hY : Y.length ≤ 501 := by omega
    clear hq c3 hE hok c1 c2
    refine fn_v (F := F13) rfl ?_
    refine gK ?_
    have hS : SV (hput (hput (hput (fun x => Ob.no) 0 (Ob.var r.cells true)) 128 (Ob.row 4 1 (bl Z) true)) 128 (Ob.row 4 1 (bl X) true)) 176 (.osl 128) X := .inr ⟨128, true, rfl, by omega, by simp only [go_sem, ↓reduceIte, Nat.reduceEqDiff, Nat.reduceAdd, Nat.reduceMul, Nat.reduceSub, Nat.reduceLT, Nat.reduceLeDiff, Int.reduceEq, Int.reduceLT, Int.reduceLE, Int.reduceNeg, Int.reduceAdd, Int.reduceSub, reduceCtorEq]⟩
    obtain ⟨h1, q1, f1⟩ := hS.frz
    have hz := frzC (x := r) (s := s) q1
    refine s_st (h1 := h1) (r0 := q) rfl ?_ f1 hql hqs ?_
    · simp only [go_sem, ↓reduceIte, Nat.reduceEqDiff, Nat.reduceAdd, Nat.reduceMul, Nat.reduceSub, Nat.reduceLT, Nat.reduceLeDiff, Int.reduceEq, Int.reduceLT, Int.reduceLE, Int.reduceNeg, Int.reduceAdd, Int.reduceSub, reduceCtorEq]
      exact hz
    intro v2 h2 hv2 hk2
    clear hz q1 f1 hS hk2 hql hqs s24 s30
    rcases hv2 with rfl | ⟨oY, q2, rfl, ho, hrow⟩
    · refine gK ?_
      refine in13a (B := 208) hY _ _ _ _ eA eA eB (by omega) ?_
      intro e' h' k' hv
      have hret := hv.ret
      clear hv
      exact gD
    · refine gK ?_
      refine in13b (B := 208) hY _ _ _ _ eA oY q2 (by omega) eA hrow eB (by omega) ?_
      intro e' h' k' hv
      have hret := hv.ret
      clear hv
      exact gD
  · rename_i hc
    have hr : rdX 3 1 (bi []) = .nls := rfl
    rw [hr]
    clear hr hok
    generalize rightE r = v at *
    refine fn_v (F := F13) rfl ?_
    by_cases c1 : 0 ≤ at_
    · have d1 : decide (at_ < 0) = false := decide_eq_false (by omega)
      by_cases c2 : at_ ≤ s.size
      · have d2 : decide ((s.size : Int) < at_) = false := decide_eq_false (by omega)
        have d3 : decide (v = 0) = false := by
          simp [c1, c2] at hc
          exact decide_eq_false hc
        clear c1 c2 hc
        exact gD
      · have d2 : decide ((s.size : Int) < at_) = true := decide_eq_true (by omega)
        clear c1 c2 hc
        exact gD
    · have d1 : decide (at_ < 0) = true := decide_eq_true (by omega)
      clear c1 hc
      exact gD
theorem new_non {n : Nat} {Y : List Bool} (h : Y.length = n) : newB Y (non n) = Y := by
  have hl : Y.length = (non n).length := by rw [h, non_len]
  refine bext (newB_len hl) fun j hj => ?_
  rw [on_new hl]
  exact ⟨fun h => h.1, fun h => ⟨h, on_non⟩⟩
theorem f17 (r : Rx) (s : ByteArray) (h : Rt r s) : callP (Lv xp md) 17 [.agg r.cells, .str s] = some [.bool (decide (rightE r = 0) && some_ (img (s.size + 1) (r.R s) (List.replicate (s.size + 1) true)))] := by
  have s24 := f24 r h.inn
  have hs := h.hs
  have hE := img_len (s.size + 1) (r.R s) (List.replicate (s.size + 1) true)
  obtain ⟨xl, xi, xt, xd, xf, xc, xz⟩ := cellsF r
  cases hv : decide (rightE r = 0) with
  | false =>
    rw [Bool.false_and]
    generalize rightE r = v at *
    refine fn_v (F := F17) rfl ?_
    exact gD
    all_goals simp_all
  | true =>
    have hv0 := of_decide_eq_true hv
    have s30 := f30 s (by omega)
    have hne : ∀ B : List Bool, B.length = s.size + 1 → B ≠ [] := fun B hB he => by rw [he] at hB; simp at hB
    have h34 := f34 (img (s.size + 1) (r.R s) (List.replicate (s.size + 1) true)) (non (s.size + 1)) (by omega) (hne _ hE) (by rw [hE, non_len])
    rw [new_non hE] at h34
    obtain ⟨q, hq, hqs⟩ := stp s hs r (h.ok hv0) (List.replicate (s.size + 1) true) (by simp)
    have h34h : Hid (_) := h34
    rw [Bool.true_and]
    rw [hv0] at s24
    have w1 := inc64 s.size (by omega)
    have p0 : non (s.size + 1) = pre (List.replicate (s.size + 1) true) 0 := by rw [pre_zero, List.length_replicate]; rfl
    have h0 : s.size + 1 ≤ 68719476736 := by omega
    have hql : Hid (callP (Lv xp md) 31 [.agg r.cells, .str s, .isl (bl (List.replicate (s.size + 1) true))] = some [q]) := hq
    have hX : ∀ j, j < s.size + 1 → (List.replicate (s.size + 1) true)[j]? = some true := fun j hj => by simp [hj]
    have hXl : (List.replicate (s.size + 1) true).length = s.size + 1 := by simp
    generalize img (s.size + 1) (r.R s) (List.replicate (s.size + 1) true) = Y at *
    have pall := pre_all (List.replicate (s.size + 1) true)
    rw [hXl] at pall
    have hXl2 : (List.replicate (s.size + 1) true).length ≤ s.size + 1 ∧ s.size + 1 ≤ (List.replicate (s.size + 1) true).length := by omega
    generalize List.replicate (s.size + 1) true = X at *
    clear hq hv hv0 hE h34 hne
    clear hXl
    have nl := non_len (s.size + 1)
    generalize hN : non (s.size + 1) = N0 at *
    have hNh : Hid (N0 = pre X 0) := p0
    clear hN p0 nl
    refine fn_v (F := F17) rfl ?_
    refine gK ?_
    have p0 : N0 = pre X 0 := hNh
    refine rn_loop (s.size + 1) (fun j st => st.e 1 = .str s ∧ st.e 2 = .ptr 0 0 0 ∧ st.e 5 = .osl 48 ∧ st.e 6 = .int .i64 j ∧ st.h 0 = .var r.cells true ∧ st.h 48 = .row 4 1 (bl (pre X j)) true ∧ 64 ≤ st.k) (j := 0) ⟨?_, ?_, ?_, ?_, ?_, ?_, ?_⟩ (Nat.zero_le _) ?_
    all_goals first | exact eA | exact eB | exact eO | exact eC | exact eD | skip
    rintro j ⟨e, h, k⟩ hj ⟨i1, i2, i5, i6, b0, b48, ik⟩
    dsimp only at i1 i2 i5 i6 b0 b48 ik
    have n1 : ∀ c, c < 64 → (c = k) = False := fun c hc => by simp; omega
    have n2 : ∀ c, c < 64 → (k = c) = False := fun c hc => by simp; omega
    clear p0
    have pl : (pre X j).length ≤ s.size + 1 ∧ s.size + 1 ≤ (pre X j).length := by rw [pre_len X (by omega)]; exact hXl2
    have plc : decide ((j : Int) < ((pre X j).length : Int)) = decide ((j : Int) < ((s.size + 1 : Nat) : Int)) := by
      rw [show (pre X j).length = s.size + 1 by omega]
    rcases nextC hj with ⟨hlt, c1⟩ | ⟨rfl, c1⟩
    · rw [c1] at plc
      have w1 := inc64 j (by omega)
      have p1 := pre_at X (j := j) (by omega)
      have p2 := pre_set (hX j hlt)
      have p3 := bl_set (pre X j) j true
      have p4 : j < (pre X j).length := by rw [pre_len X (by omega)]; omega
      rw [p2] at p3
      clear hX p2 pall
      refine gK ?_
      refine ⟨by omega, ?_, ?_, ?_, ?_, ?_, ?_, ?_⟩
      all_goals first | exact eC | exact eO | exact eD | skip
    · rw [c1] at plc
      rw [pall] at b48 plc
      clear pl
      refine gK ?_
      have hS : SV h k (.osl 48) X := .inr ⟨48, true, rfl, by omega, b48⟩
      obtain ⟨h1, q1, f1⟩ := hS.frz
      have hz := frzC (x := r) (s := s) q1
      refine s_st (h1 := h1) (r0 := q) rfl ?_ f1 hql hqs ?_
      · simp only [go_sem, ↓reduceIte, Nat.reduceEqDiff, Nat.reduceAdd, Nat.reduceMul, Nat.reduceSub, Nat.reduceLT, Nat.reduceLeDiff, Int.reduceEq, Int.reduceLT, Int.reduceLE, Int.reduceNeg, Int.reduceAdd, Int.reduceSub, reduceCtorEq, i1, i5]; exact hz
      intro v2 h2 hv2 hk2
      clear hz q1 f1 hS hk2 hql hqs
      have hvh : Hid (_) := hv2
      clear hv2
      refine gK ?_
      refine s_c34 (v := v2) (w := .osl _) (X := Y) (Y := N0) ((show SV _ _ _ _ from hvh).kp (m := _) (k' := _) ⟨_, .refl _, fun l hl => hput_ne _ _ hl⟩ ?_ (Nat.le_refl _)) (.inr ⟨_, true, rfl, Nat.lt_succ_self _, hput_same _ _ _⟩) ?_ ?_ h34h ?_
      · omega
      · simp only [go_sem, ↓reduceIte, Nat.reduceEqDiff, Nat.reduceAdd, Nat.reduceMul, Nat.reduceSub, Nat.reduceLT, Nat.reduceLeDiff, Int.reduceEq, Int.reduceLT, Int.reduceLE, Int.reduceNeg, Int.reduceAdd, Int.reduceSub, reduceCtorEq]
      · simp only [go_sem, ↓reduceIte, Nat.reduceEqDiff, Nat.reduceAdd, Nat.reduceMul, Nat.reduceSub, Nat.reduceLT, Nat.reduceLeDiff, Int.reduceEq, Int.reduceLT, Int.reduceLE, Int.reduceNeg, Int.reduceAdd, Int.reduceSub, reduceCtorEq]
      intro h3 hk3 hrow
      clear hk3
      exact gD
noncomputable def wholeB (r : Rx) (s : ByteArray) : Bool := decide (rightE r = 0) && @decide (On (img (s.size + 1) (r.R s) (at1 (s.size + 1) 0)) s.size) (Classical.propDecidable _)
theorem f18w (r : Rx) (s : ByteArray) (h : Rt r s) : callP (Lv xp md) 18 [.agg r.cells, .str s] = some [.bool (wholeB r s)] := by
  obtain ⟨b, hb, hi⟩ := f18 r s h
  rw [hb]
  unfold wholeB
  rw [show b = @decide (On (img (s.size + 1) (r.R s) (at1 (s.size + 1) 0)) s.size) (Classical.propDecidable _) by
    cases b with
    | true => exact (@decide_eq_true _ (Classical.propDecidable _) (hi.1 rfl)).symm
    | false => exact (@decide_eq_false _ (Classical.propDecidable _) (fun h => by have := hi.2 h; cases this)).symm]
theorem onL_last {Y : List Bool} : ∀ m, onL Y m ≠ [] → ∃ j : Nat, (onL Y m)[(onL Y m).length - 1]? = some (j : Int) ∧ j < m ∧ On Y j ∧ ∀ j', j' < m → On Y j' → j' ≤ j
  | 0, h => absurd rfl h
  | m + 1, h => by
    unfold onL at h ⊢
    split at h
    · rename_i hm
      rw [if_pos hm]
      exact ⟨m, by simp, by omega, hm, fun j' h1 _ => by omega⟩
    · rename_i hm
      rw [if_neg hm]
      obtain ⟨j, h1, h2, h3, h4⟩ := onL_last m h
      refine ⟨j, h1, by omega, h3, fun j' h5 h6 => ?_⟩
      rcases Nat.lt_or_ge j' m with h7 | h7
      · exact h4 j' h7 h6
      · obtain rfl : j' = m := by omega
        exact absurd h6 hm
theorem onL_none {Y : List Bool} {m : Nat} (h : onL Y m = []) : ∀ j, j < m → ¬ On Y j := fun j hj ho => by
  have : (j : Int) ∈ onL Y m := mem_onL.2 ⟨j, rfl, hj, ho⟩
  rw [h] at this
  cases this
theorem ends_no {r : Rx} {s : ByteArray} (h : rightE r ≠ 0) (i : Int) : endsL r s i = [] := by
  unfold endsL
  rw [if_neg (by simp [h])]
theorem ends_eq {r : Rx} {s : ByteArray} (h : rightE r = 0) {i : Nat} (hi : i ≤ s.size) : endsL r s i = onL (img (s.size + 1) (r.R s) (at1 (s.size + 1) i)) (s.size + 1) := by
  unfold endsL
  rw [if_pos (by simp [h]; omega), Int.toNat_natCast]
theorem f19 (r : Rx) (s : ByteArray) (h : Rt r s) : callP (Lv xp md) 19 [.agg r.cells, .str s] = some [.bool (wholeB r s)] := by
  have s13 := f13 r s h 0
  obtain ⟨xl, xi, xt, xd, xf, xc, xz⟩ := cellsF r
  have hs := h.hs
  by_cases hl : endsL r s 0 = []
  · have hw : wholeB r s = false := by
      unfold wholeB
      by_cases hr : rightE r = 0
      · have h1 := onL_none (by rw [← ends_eq (r := r) (s := s) hr (Nat.zero_le _)]; exact hl) s.size (by omega)
        rw [@decide_eq_false _ (Classical.propDecidable _) h1, Bool.and_false]
      · rw [decide_eq_false hr, Bool.false_and]
    rw [hw]
    rw [hl, show rdX 3 1 (bi []) = .nls from rfl] at s13
    clear hl hw
    refine fn_v (F := F19) rfl ?_
    have c1 : decide ((0 : Int) < ((0 : Nat) : Int)) = false := by decide
    exact gD
  · have hr : rightE r = 0 := by
      by_cases hr : rightE r = 0
      · exact hr
      · exact absurd (ends_no hr 0) hl
    have he : endsL r s 0 = _ := ends_eq (r := r) (s := s) hr (Nat.zero_le _)
    obtain ⟨j, h1, h2, h3, h4⟩ := onL_last _ (by rw [← he]; exact hl)
    rw [← he] at h1
    have hw : wholeB r s = decide ((j : Int) = (s.size : Int)) := by
      unfold wholeB
      rw [decide_eq_true hr, Bool.true_and]
      by_cases hj : j = s.size
      · subst hj
        rw [@decide_eq_true _ (Classical.propDecidable _) h3]
        simp
      · have : ¬ On (img (s.size + 1) (r.R s) (at1 (s.size + 1) 0)) s.size := fun ho => by have := h4 s.size (by omega) ho; omega
        rw [@decide_eq_false _ (Classical.propDecidable _) this]
        simp
        omega
    rw [hw]
    rw [rdX_ne (bi_ne hl)] at s13
    have hll := onL_len (img (s.size + 1) (r.R s) (at1 (s.size + 1) 0)) (s.size + 1)
    rw [← he] at hll
    have hbl := bi_len (endsL r s 0)
    have hba : (bi (endsL r s 0))[(endsL r s 0).length - 1]? = some [.int .i64 j] := by simp only [bi, List.getElem?_map, h1, Option.map_some]
    have hpos : 0 < (endsL r s 0).length := List.length_pos_iff.2 hl
    generalize (endsL r s 0) = l at *
    have c1 : decide ((0 : Int) < (l.length : Int)) = true := by simp; omega
    have w1 : IntKind.i64.wrap ((l.length : Int) - 1) = ((l.length - 1 : Nat) : Int) := by rw [wrapN (by omega) (by omega)]; omega
    have hlt : l.length - 1 < l.length := by omega
    clear hl he h1 h2 h3 h4 hw hpos hr hll
    generalize l.length - 1 = m at *
    refine fn_v (F := F19) rfl ?_
    exact gD
end Go.Proofs.Ytpdamhhaepcffaa.AE
/-
  regexec: the reference's Find, All.
-/
set_option linter.unusedVariables false
set_option linter.unusedSimpArgs false
set_option maxHeartbeats 8000000
set_option maxRecDepth 100000
namespace Go.Proofs.Ytpdamhhaepcffaa.AE
open Go
/-- What the ends at i say. -/
theorem ends_some {r : Rx} {s : ByteArray} {i : Nat} (hi : i ≤ s.size) (h : endsL r s i ≠ []) : rightE r = 0 ∧ ∃ j : Nat, (endsL r s i)[(endsL r s i).length - 1]? = some (j : Int) ∧ j < s.size + 1 ∧ r.R s i j ∧ ∀ j', j' < s.size + 1 → r.R s i j' → j' ≤ j := by
  have hr : rightE r = 0 := by
    by_cases hr : rightE r = 0
    · exact hr
    · exact absurd (ends_no hr i) h
  refine ⟨hr, ?_⟩
  have he := ends_eq (r := r) (s := s) hr hi
  rw [he] at h ⊢
  obtain ⟨j, h1, h2, h3, h4⟩ := onL_last _ h
  refine ⟨j, h1, h2, ((on_im1 (by omega)).1 h3).2, fun j' h5 h6 => h4 j' h5 ((on_im1 (by omega)).2 ⟨h5, h6⟩)⟩
theorem ends_none {r : Rx} {s : ByteArray} {i : Nat} (hi : i ≤ s.size) (h : endsL r s i = []) (hr : rightE r = 0) : ∀ j, j < s.size + 1 → ¬ r.R s i j := fun j hj hR => by
  rw [ends_eq hr hi] at h
  exact onL_none h j hj ((on_im1 (by omega)).2 ⟨hj, hR⟩)
theorem endsL_len (r : Rx) (s : ByteArray) (i : Int) : (endsL r s i).length ≤ s.size + 1 := by
  unfold endsL
  split
  · exact onL_len _ _
  · simp
theorem f15 (r : Rx) (s : ByteArray) (h : Rt r s) (at_ : Int) (hat : -9223372036854775808 ≤ at_ ∧ at_ < 9223372036854775808) : callP (Lv xp md) 15 [.agg r.cells, .str s, .int .i64 at_] = some [spD (findO r s at_.toNat), .bool (findO r s at_.toNat).isSome] := by
  have s13 := fun i => f13 r s h i
  have hs := h.hs
  obtain ⟨xl, xi, xt, xd, xf, xc, xz⟩ := cellsF r
  refine fn_v (F := F15) rfl ?_
  obtain ⟨m, hm, hmx⟩ : ∃ m : Nat, at_.toNat = m ∧ (max at_ 0 : Int) = m := ⟨at_.toNat, rfl, by omega⟩
  rw [hm]
  clear hm
  refine gK ?_
  refine rn_loop (s.size + 1 - m) (fun c st => st.e 1 = .str s ∧ st.e 3 = .ptr 0 0 0 ∧ st.e 6 = .ptr 8 0 0 ∧ st.e 8 = .int .i64 ((m + c : Nat) : Int) ∧ st.h 0 = .var r.cells true ∧ st.h 8 = .var [.int .i64 0, .int .i64 0] true ∧ (rightE r = 0 → ∀ i, m ≤ i → i < m + c → ∀ j, j < s.size + 1 → ¬ r.R s i j) ∧ 48 ≤ st.k) (j := 0) ⟨?_, ?_, ?_, ?_, ?_, ?_, fun _ i h1 h2 => by omega, ?_⟩ (Nat.zero_le _) ?_
  all_goals first | exact eA | exact eB | exact eO | exact eC | exact eD | skip
  rintro c ⟨e, h, k⟩ hc ⟨i1, i3, i6, i8, b0, b8, iv, ik⟩
  dsimp only at i1 i3 i6 i8 b0 b8 ik
  have n1 : ∀ c, c < 48 → (c = k) = False := fun c hc => by simp; omega
  have n2 : ∀ c, c < 48 → (k = c) = False := fun c hc => by simp; omega
  clear hmx hat
  rcases Nat.lt_or_ge c (s.size + 1 - m) with hlt | hge
  · generalize hi : m + c = i at *
    have hile : i ≤ s.size := by omega
    have d1 : decide ((i : Int) ≤ (s.size : Int)) = true := decide_eq_true (by omega)
    have w1 := inc64 i (by omega)
    have s13i := s13 i
    have hml : m ≤ i := by omega
    have hic : m + c ≤ i ∧ i ≤ m + c := by omega
    have hic2 : m + (c + 1) = i + 1 := by omega
    clear s13 hi
    by_cases hl : endsL r s i = []
    · rw [hl, show rdX 3 1 (bi []) = .nls from rfl] at s13i
      have c2 : decide ((0 : Int) < ((0 : Nat) : Int)) = false := by decide
      have iv2 : rightE r = 0 → ∀ i, m ≤ i → i < m + (c + 1) → ∀ j, j < s.size + 1 → ¬ r.R s i j := fun hr i' h1 h2 => by
        rcases Nat.lt_or_ge i' i with h5 | h5
        · exact iv hr i' h1 h5
        · obtain rfl : i' = i := by omega
          exact ends_none hile hl hr
      clear iv hl
      rw [← hic2] at w1
      refine gK ?_
      refine ⟨by omega, ?_, ?_, ?_, ?_, ?_, ?_, iv2, ?_⟩
      all_goals first | exact eC | exact eO | exact eD | skip
    · obtain ⟨hr, j, h1, h2, h3, h4⟩ := ends_some hile hl
      have hyes : Fd (s.size + 1) (r.R s) m (some (i, j)) := ⟨hml, by dsimp only; omega, h2, h3, h4, iv hr⟩
      have hf : findO r s m = some (i, j) := (findO_fd hr s m).uniq hyes
      rw [hf, spD, show (some (i, j)).isSome = true from rfl]
      rw [rdX_ne (bi_ne hl)] at s13i
      have hll := endsL_len r s i
      have hbl := bi_len (endsL r s i)
      have hba : (bi (endsL r s i))[(endsL r s i).length - 1]? = some [.int .i64 j] := by simp only [bi, List.getElem?_map, h1, Option.map_some]
      have hpos : 0 < (endsL r s i).length := List.length_pos_iff.2 hl
      generalize (endsL r s i) = l at *
      have c1 : decide ((0 : Int) < (l.length : Int)) = true := by simp; omega
      have w2 : IntKind.i64.wrap ((l.length : Int) - 1) = ((l.length - 1 : Nat) : Int) := by rw [wrapN (by omega) (by omega)]; omega
      have hlt2 : l.length - 1 < l.length := by omega
      clear hl h1 h2 h3 h4 hyes hf hpos hr hll iv
      generalize l.length - 1 = q at *
      dsimp only
      exact gD
  · have d1 : decide (((m + c : Nat) : Int) ≤ (s.size : Int)) = false := decide_eq_false (by omega)
    have hf : findO r s m = none := by
      by_cases hr : rightE r = 0
      · have hno : Fd (s.size + 1) (r.R s) m none := fun i h1 h2 j h3 h4 => iv hr i h1 (by omega) j h3 h4
        exact (findO_fd hr s m).uniq hno
      · exact findO_no hr s m
    rw [hf, spD, show (none : Option (Nat × Nat)).isSome = false from rfl]
    clear iv hf s13
    exact gD
theorem allL_eq (r : Rx) (s : ByteArray) : allL r s = allF r s (s.size + 2) 0 := by
  unfold allL
  split
  · rfl
  · rename_i h
    rw [allF, findO_no h]
theorem f22 (r : Rx) (s : ByteArray) (h : Rt r s) : callP (Lv xp md) 22 [.agg r.cells, .str s] = some [rdX 32 2 (sp (allL r s))] := by
  have hs := h.hs
  obtain ⟨xl, xi, xt, xd, xf, xc, xz⟩ := cellsF r
  rw [allL_eq]
  have s15 : ∀ m : Nat, m ≤ s.size + 1 → callP (Lv xp md) 15 [.agg r.cells, .str s, .int .i64 (m : Int)] = some [spD (findO r s m), .bool (findO r s m).isSome] := fun m hm => f15 r s h (m : Int) (by omega)
  have hwf := Rx.wf s r
  have hfd : ∀ m i j, findO r s m = some (i, j) → m ≤ i ∧ i < s.size + 1 ∧ j < s.size + 1 ∧ r.R s i j := fun m i j hf => by
    by_cases hr : rightE r = 0
    · have hq := findO_fd hr s m
      rw [hf] at hq
      exact ⟨hq.1, hq.2.1, hq.2.2.1, hq.2.2.2.1⟩
    · rw [findO_no hr] at hf
      cases hf
  refine fn_v (F := F22) rfl ?_
  generalize htot : allF r s (s.size + 2) 0 = tot
  refine gK ?_
  refine rn_loop (s.size + 2) (fun c st => st.e 1 = .str s ∧ st.e 2 = .ptr 0 0 0 ∧ st.h 0 = .var r.cells true ∧ (∃ (m : Nat) (acc : List (Nat × Nat)), c ≤ m ∧ m ≤ s.size + 1 ∧ acc ++ allF r s (s.size + 2 - c) m = tot ∧ acc.length ≤ c ∧ st.e 6 = .int .i64 m ∧ OutX st.h 32 st.k 32 2 (sp acc) (st.e 5)) ∧ 32 ≤ st.k) (j := 0) ⟨?_, ?_, ?_, ⟨0, [], by omega, by omega, htot, by simp, rfl, .inl ⟨rfl, by simp only [go_sem, ↓reduceIte, Nat.reduceEqDiff, Nat.reduceAdd, Nat.reduceMul, Nat.reduceSub, Nat.reduceLT, Nat.reduceLeDiff, Int.reduceEq, Int.reduceLT, Int.reduceLE, Int.reduceNeg, Int.reduceAdd, Int.reduceSub, reduceCtorEq]⟩⟩, ?_⟩ (Nat.zero_le _) ?_
  all_goals first | exact eA | exact eB | exact eO | exact eC | exact eD | skip
  rintro c ⟨e, h, k⟩ hc ⟨i1, i2, b0, hv, ik⟩
  dsimp only at i1 i2 b0 hv ik
  have n1 : ∀ c, c < 32 → (c = k) = False := fun c hc => by simp; omega
  have n2 : ∀ c, c < 32 → (k = c) = False := fun c hc => by simp; omega
  obtain ⟨m, acc, hcm, hms, htot, hacl, i6, hv⟩ := hv
  obtain ⟨d, hd⟩ : ∃ d, s.size + 2 - c = d + 1 := ⟨s.size + 1 - c, by omega⟩
  rw [hd, allF] at htot
  have s15m := s15 m hms
  have hfdm := hfd m
  have hlt : c < s.size + 2 := by omega
  have hd2 : s.size + 2 - (c + 1) = d := by omega
  clear s15 hfd
  cases hf : findO r s m with
  | none =>
    rw [hf] at htot s15m
    rw [show (none : Option (Nat × Nat)).isSome = false from rfl, spD] at s15m
    obtain rfl : acc = tot := by simpa using htot
    clear htot hfdm hd hd2 hf hwf
    have hvh : Hid (_) := hv
    generalize e5 : e 5 = v5 at *
    clear hv
    refine gK ?_
    refine rn_ret ?_
    have hz := (((show OutX _ _ _ _ _ _ _ from hvh).put1 (j := k + 56) (ob := .var [.int .i64 0, .int .i64 0] true) (.inl (by omega))).put1 (j := k + 56) (ob := .var [.int .i64 0, .int .i64 0] true) (.inl (by omega))).ret
    exact hz
  | some p =>
    obtain ⟨i, j⟩ := p
    obtain ⟨a1, a2, a3, a4⟩ := hfdm i j hf
    rw [hf] at htot s15m
    rw [show (some (i, j)).isSome = true from rfl, spD] at s15m
    dsimp only at s15m htot
    have hij := (hwf i j a2 a4).1
    clear hwf hf hfdm
    have u1 := sp_all acc
    have u2 := own_lim (x := acc.length) (by omega)
    have u3 := sp_app acc (i, j)
    have u4 := sp_len acc
    dsimp only at u3
    have un : sp (acc ++ [(i, j)]) ≠ [] := by rw [← u3]; simp
    have z1 : (k = k + 64) = False := by simp
    have z2 : (k = k + 56) = False := by simp
    by_cases hq : i = j
    · subst hq
      rw [if_pos rfl] at htot
      have w1 := inc64 i (by omega)
      have hth : Hid (_) := htot
      rcases hv with ⟨hO, e5⟩ | ⟨o, e5, o1, o2, ho, hne⟩
      · rw [hO, List.nil_append] at u3
        have u3h : Hid (_) := u3
        clear u1 u2 u4 hO u3 htot
        refine gK ?_
        refine ⟨by omega, ?_, ?_, ?_, ?_, ?_⟩
        all_goals first | exact eC | exact eO | exact eD | skip
        refine ⟨i + 1, acc ++ [(i, i)], by omega, by omega, ?_, by simp; omega, by simp only [go_sem, ↓reduceIte, Nat.reduceEqDiff, Nat.reduceAdd, Nat.reduceMul, Nat.reduceSub, Nat.reduceLT, Nat.reduceLeDiff, Int.reduceEq, Int.reduceLT, Int.reduceLE, Int.reduceNeg, Int.reduceAdd, Int.reduceSub, reduceCtorEq], .inr ⟨k + 120, by simp only [go_sem, ↓reduceIte, Nat.reduceEqDiff, Nat.reduceAdd, Nat.reduceMul, Nat.reduceSub, Nat.reduceLT, Nat.reduceLeDiff, Int.reduceEq, Int.reduceLT, Int.reduceLE, Int.reduceNeg, Int.reduceAdd, Int.reduceSub, reduceCtorEq], by omega, by simp only; omega, by rw [← (show _ = _ from u3h)]; simp only [go_sem, ↓reduceIte, Nat.reduceEqDiff, Nat.reduceAdd, Nat.reduceMul, Nat.reduceSub, Nat.reduceLT, Nat.reduceLeDiff, Int.reduceEq, Int.reduceLT, Int.reduceLE, Int.reduceNeg, Int.reduceAdd, Int.reduceSub, reduceCtorEq], un⟩⟩
        rw [hd2, List.append_assoc]
        exact hth
      · skip
        have m1o : ∀ c, c < 32 → (c = o) = False := fun c hc => by simp; omega
        have m2o : ∀ c, c < 32 → (o = c) = False := fun c hc => by simp; omega
        have m3o : ∀ c, (o = k + c) = False := fun c => by simp; omega
        have m4o : ∀ c, (k + c = o) = False := fun c => by simp; omega
        have m5o : (o = k) = False := by simp; omega
        have m6o : (k = o) = False := by simp; omega
        clear htot
        refine gK ?_
        refine ⟨by omega, ?_, ?_, ?_, ?_, ?_⟩
        all_goals first | exact eC | exact eO | exact eD | skip
        refine ⟨i + 1, acc ++ [(i, i)], by omega, by omega, ?_, by simp; omega, by simp only [go_sem, ↓reduceIte, Nat.reduceEqDiff, Nat.reduceAdd, Nat.reduceMul, Nat.reduceSub, Nat.reduceLT, Nat.reduceLeDiff, Int.reduceEq, Int.reduceLT, Int.reduceLE, Int.reduceNeg, Int.reduceAdd, Int.reduceSub, reduceCtorEq], .inr ⟨k + 120, by simp only [go_sem, ↓reduceIte, Nat.reduceEqDiff, Nat.reduceAdd, Nat.reduceMul, Nat.reduceSub, Nat.reduceLT, Nat.reduceLeDiff, Int.reduceEq, Int.reduceLT, Int.reduceLE, Int.reduceNeg, Int.reduceAdd, Int.reduceSub, reduceCtorEq], by omega, by simp only; omega, by simp only [go_sem, ↓reduceIte, Nat.reduceEqDiff, Nat.reduceAdd, Nat.reduceMul, Nat.reduceSub, Nat.reduceLT, Nat.reduceLeDiff, Int.reduceEq, Int.reduceLT, Int.reduceLE, Int.reduceNeg, Int.reduceAdd, Int.reduceSub, reduceCtorEq], un⟩⟩
        rw [hd2, List.append_assoc]
        exact hth
    · rw [if_neg hq] at htot
      have hdq : decide ((i : Int) = (j : Int)) = false := decide_eq_false (by omega)
      have hlt2 : i + 1 ≤ j := by omega
      have hth : Hid (_) := htot
      clear hq
      rcases hv with ⟨hO, e5⟩ | ⟨o, e5, o1, o2, ho, hne⟩
      · rw [hO, List.nil_append] at u3
        have u3h : Hid (_) := u3
        clear u1 u2 u4 hO u3 htot
        refine gK ?_
        refine ⟨by omega, ?_, ?_, ?_, ?_, ?_⟩
        all_goals first | exact eC | exact eO | exact eD | skip
        refine ⟨j, acc ++ [(i, j)], by omega, by omega, ?_, by simp; omega, by simp only [go_sem, ↓reduceIte, Nat.reduceEqDiff, Nat.reduceAdd, Nat.reduceMul, Nat.reduceSub, Nat.reduceLT, Nat.reduceLeDiff, Int.reduceEq, Int.reduceLT, Int.reduceLE, Int.reduceNeg, Int.reduceAdd, Int.reduceSub, reduceCtorEq], .inr ⟨k + 120, by simp only [go_sem, ↓reduceIte, Nat.reduceEqDiff, Nat.reduceAdd, Nat.reduceMul, Nat.reduceSub, Nat.reduceLT, Nat.reduceLeDiff, Int.reduceEq, Int.reduceLT, Int.reduceLE, Int.reduceNeg, Int.reduceAdd, Int.reduceSub, reduceCtorEq], by omega, by simp only; omega, by rw [← (show _ = _ from u3h)]; simp only [go_sem, ↓reduceIte, Nat.reduceEqDiff, Nat.reduceAdd, Nat.reduceMul, Nat.reduceSub, Nat.reduceLT, Nat.reduceLeDiff, Int.reduceEq, Int.reduceLT, Int.reduceLE, Int.reduceNeg, Int.reduceAdd, Int.reduceSub, reduceCtorEq], un⟩⟩
        rw [hd2, List.append_assoc]
        exact hth
      · skip
        have m1o : ∀ c, c < 32 → (c = o) = False := fun c hc => by simp; omega
        have m2o : ∀ c, c < 32 → (o = c) = False := fun c hc => by simp; omega
        have m3o : ∀ c, (o = k + c) = False := fun c => by simp; omega
        have m4o : ∀ c, (k + c = o) = False := fun c => by simp; omega
        have m5o : (o = k) = False := by simp; omega
        have m6o : (k = o) = False := by simp; omega
        clear htot
        refine gK ?_
        refine ⟨by omega, ?_, ?_, ?_, ?_, ?_⟩
        all_goals first | exact eC | exact eO | exact eD | skip
        refine ⟨j, acc ++ [(i, j)], by omega, by omega, ?_, by simp; omega, by simp only [go_sem, ↓reduceIte, Nat.reduceEqDiff, Nat.reduceAdd, Nat.reduceMul, Nat.reduceSub, Nat.reduceLT, Nat.reduceLeDiff, Int.reduceEq, Int.reduceLT, Int.reduceLE, Int.reduceNeg, Int.reduceAdd, Int.reduceSub, reduceCtorEq], .inr ⟨k + 120, by simp only [go_sem, ↓reduceIte, Nat.reduceEqDiff, Nat.reduceAdd, Nat.reduceMul, Nat.reduceSub, Nat.reduceLT, Nat.reduceLeDiff, Int.reduceEq, Int.reduceLT, Int.reduceLE, Int.reduceNeg, Int.reduceAdd, Int.reduceSub, reduceCtorEq], by omega, by simp only; omega, by simp only [go_sem, ↓reduceIte, Nat.reduceEqDiff, Nat.reduceAdd, Nat.reduceMul, Nat.reduceSub, Nat.reduceLT, Nat.reduceLeDiff, Int.reduceEq, Int.reduceLT, Int.reduceLE, Int.reduceNeg, Int.reduceAdd, Int.reduceSub, reduceCtorEq], un⟩⟩
        rw [hd2, List.append_assoc]
        exact hth
end Go.Proofs.Ytpdamhhaepcffaa.AE
/-
  regexec: what known expressions match, computed. No program in sight.
-/
set_option linter.unusedVariables false
set_option linter.unusedSimpArgs false
set_option maxRecDepth 100000
namespace Go.Proofs.Ytpdamhhaepcffaa.AE
open Go
def setC1 (set : List (Int × Int)) (s : ByteArray) (X : List Bool) : Nat → Bool
  | 0 => false
  | i + 1 => X.getD i false && inSet set (byt s i)
def setC (set : List (Int × Int)) (s : ByteArray) (X : List Bool) : List Bool := (List.range (s.size + 1)).map (setC1 set s X)
def stC (k : Int) (s : ByteArray) (X : List Bool) : List Bool := (List.range (s.size + 1)).map fun j => X.getD j false && stands k s j
def itC (f : List Bool → List Bool) : Nat → List Bool → List Bool
  | 0, X => X
  | m + 1, X => f (itC f m X)
def aC (f : List Bool → List Bool) (L : List Bool) : Nat → List Bool × List Bool
  | 0 => (L, L)
  | t + 1 => let p := aC f L t; let n := f p.2; (orB p.1 n, newB n p.1)
def repC (f : List Bool → List Bool) (n : Nat) (mn mx : Int) (X : List Bool) : List Bool := (aC f (itC f mn.toNat X) (if mx < 0 then n + 1 else (mx - mn).toNat)).1
mutual
def Rx.C (s : ByteArray) : Rx → List Bool → List Bool
  | .mk k _ set mn mx subs, X => if k = 1 then setC set s X else if k = 2 then seqC s subs X else if k = 3 then altC s subs X else if k = 4 then repC (fstC s subs) (s.size + 1) mn mx X else stC k s X
def seqC (s : ByteArray) : List Rx → List Bool → List Bool
  | [], X => X
  | r :: q, X => seqC s q (r.C s X)
def altC (s : ByteArray) : List Rx → List Bool → List Bool
  | [], X => non (s.size + 1)
  | r :: q, X => orB (r.C s X) (altC s q X)
def fstC (s : ByteArray) : List Rx → List Bool → List Bool
  | [], X => non (s.size + 1)
  | r :: _, X => r.C s X
end
theorem getD_on {X : List Bool} {j : Nat} : X.getD j false = true ↔ On X j := by
  unfold On
  rw [List.getD_eq_getElem?_getD]
  cases X[j]? with
  | none => simp
  | some b => simp
theorem setC_ok (set : List (Int × Int)) (s : ByteArray) (X : List Bool) : setC set s X = img (s.size + 1) (setR set s) X := by
  refine bext (by simp [setC, img_len]) fun j hj => ?_
  have hj : j < s.size + 1 := by simpa [setC] using hj
  have h1 : (setC set s X)[j]? = some (setC1 set s X j) := by
    unfold setC
    rw [List.getElem?_map, List.getElem?_range hj]; rfl
  rw [on_img, On, h1]
  cases j with
  | zero =>
    constructor
    · intro h; cases h
    · rintro ⟨_, i, _, _, h, _⟩; omega
  | succ i =>
    simp only [setC1, Option.some.injEq, Bool.and_eq_true, getD_on]
    constructor
    · rintro ⟨h2, h3⟩; exact ⟨hj, i, h2, by omega, rfl, h3⟩
    · rintro ⟨_, i', h2, h3, h4, h5⟩
      obtain rfl : i = i' := by omega
      exact ⟨h2, h5⟩
theorem stC_ok (k : Int) (s : ByteArray) (X : List Bool) : stC k s X = img (s.size + 1) (stR k s) X := by
  refine bext (by simp [stC, img_len]) fun j hj => ?_
  have hj : j < s.size + 1 := by simpa [stC] using hj
  have h1 : (stC k s X)[j]? = some (X.getD j false && stands k s j) := by
    unfold stC
    rw [List.getElem?_map, List.getElem?_range hj]; rfl
  rw [on_img, On, h1]
  simp only [Option.some.injEq, Bool.and_eq_true, getD_on]
  constructor
  · rintro ⟨h2, h3⟩; exact ⟨hj, j, h2, rfl, by omega, h3⟩
  · rintro ⟨_, i, h2, rfl, h3, h4⟩; exact ⟨h2, h4⟩
section
variable {n : Nat} {R : Rl} {f : List Bool → List Bool}
theorem itC_ok (hf : ∀ X : List Bool, X.length = n → f X = img n R X) {X : List Bool} (hX : X.length = n) : ∀ m, itC f m X = pI n R X m
  | 0 => rfl
  | m + 1 => by
    show f (itC f m X) = img n R (pI n R X m)
    rw [itC_ok hf hX m, hf _ (pI_len hX m)]
theorem aC_ok (hf : ∀ X : List Bool, X.length = n → f X = img n R X) {L : List Bool} (hL : L.length = n) : ∀ t, aC f L t = aI n R L t
  | 0 => rfl
  | t + 1 => by
    show (orB (aC f L t).1 (f (aC f L t).2), newB (f (aC f L t).2) (aC f L t).1) = (orB (aI n R L t).1 (img n R (aI n R L t).2), newB (img n R (aI n R L t).2) (aI n R L t).1)
    rw [aC_ok hf hL t, hf _ (aI_len hL t).2]
theorem aI_cnt2 {L : List Bool} (hL : L.length = n) : ∀ t, some_ (aI n R L (t + 1)).2 = true → t + 1 ≤ (aI n R L (t + 1)).1.count true
  | 0, h => by have := aI_cnt hL h; omega
  | t + 1, h => by
    have h1 := aI_cnt hL h
    have h2 : some_ (aI n R L (t + 1)).2 = true := by
      obtain ⟨j, hj⟩ := some_iff.1 h
      have hl := aI_len (R := R) hL (t + 1)
      have hq : (aI n R L (t + 1 + 1)).2 = newB (img n R (aI n R L (t + 1)).2) (aI n R L (t + 1)).1 := rfl
      rw [hq, on_new (by rw [img_len, hl.1])] at hj
      obtain ⟨_, i, hi, _⟩ := on_img.1 hj.1
      exact some_iff.2 ⟨i, hi⟩
    have h3 := aI_cnt2 hL t h2
    omega
theorem aI_end {L : List Bool} (hL : L.length = n) : some_ (aI n R L (n + 1)).2 = false := by
  cases h : some_ (aI n R L (n + 1)).2 with
  | false => rfl
  | true =>
    have h1 := aI_cnt2 (R := R) hL n h
    have h2 := cnt_len (aI n R L (n + 1)).1
    rw [(aI_len hL (n + 1)).1] at h2
    omega
theorem repC_ok (hf : ∀ X : List Bool, X.length = n → f X = img n R X) (hR : Wf n R) {X : List Bool} (hX : X.length = n) {mn mx : Int} (h0 : 0 ≤ mn) (hm : mx < 0 ∨ mn ≤ mx) : repC f n mn mx X = img n (rep R mn mx) X := by
  unfold repC
  obtain ⟨a, rfl⟩ : ∃ a : Nat, mn = a := ⟨mn.toNat, by omega⟩
  rw [Int.toNat_natCast, itC_ok hf hX a, aC_ok hf (pI_len hX a)]
  split
  · rename_i h
    exact ey3 hR hX (.inl h) (aI_end (pI_len hX a))
  · rename_i h
    exact ey2 hR hX (by omega)
end
theorem C_ok (s : ByteArray) : ∀ r : Rx, Rx.Ok r → ∀ X : List Bool, X.length = s.size + 1 → r.C s X = img (s.size + 1) (r.R s) X := by
  intro r hr
  induction hr with
  | @mk k z set mn mx subs hk hs hl hrep hsub ih =>
    intro X hX
    have hseq : ∀ l : List Rx, (∀ r ∈ l, ∀ X : List Bool, X.length = s.size + 1 → r.C s X = img (s.size + 1) (r.R s) X) → ∀ X : List Bool, X.length = s.size + 1 → seqC s l X = img (s.size + 1) (seqR s l) X := by
      intro l
      induction l with
      | nil =>
        intro _ X hX
        rw [seqC, show seqR s [] = fun i j => i = j by funext i j; rw [seqR], img_id hX]
      | cons r q ihl =>
        intro h X hX
        rw [seqC, h r (by simp) X hX, ihl (fun r hr => h r (by simp [hr])) _ (img_len _ _ _), show seqR s (r :: q) = cmp (r.R s) (seqR s q) by rw [seqR], img_cmp (Rx.wf s r) hX]
    have halt : ∀ l : List Rx, (∀ r ∈ l, ∀ X : List Bool, X.length = s.size + 1 → r.C s X = img (s.size + 1) (r.R s) X) → altC s l X = img (s.size + 1) (altR s l) X := by
      intro l
      induction l with
      | nil =>
        intro _
        rw [altC, show altR s [] = fun _ _ => False by funext i j; rw [altR], img_no]
      | cons r q ihl =>
        intro h
        rw [altC, h r (by simp) X hX, ihl (fun r hr => h r (by simp [hr])), show altR s (r :: q) = fun i j => r.R s i j ∨ altR s q i j by funext i j; rw [altR], img_or]
    unfold Rx.C Rx.R
    split
    · exact setC_ok set s X
    split
    · exact hseq subs ih X hX
    split
    · exact halt subs ih
    split
    · rename_i h4
      obtain ⟨h1, h2, h3, h5⟩ := hrep h4
      refine repC_ok (fun X hX => ?_) (fst_wf s subs) hX h2 (by omega)
      match subs, h1 with
      | [x], _ =>
        rw [fstC, show fstR s [x] = x.R s by rw [fstR]]
        exact ih x (by simp) X hX
    · exact stC_ok k s X
/-- The last place of a set. -/
def lastC (Y : List Bool) : Nat → Option Nat
  | 0 => none
  | m + 1 => if Y.getD m false then some m else lastC Y m
def findC (r : Rx) (s : ByteArray) : Nat → Nat → Option (Nat × Nat)
  | 0, _ => none
  | f + 1, m => if s.size < m then none else match lastC (r.C s (at1 (s.size + 1) m)) (s.size + 1) with
    | some j => some (m, j)
    | none => findC r s f (m + 1)
theorem lastC_ok {Y : List Bool} : ∀ m, match lastC Y m with
    | some j => j < m ∧ On Y j ∧ ∀ j', j' < m → On Y j' → j' ≤ j
    | none => ∀ j', j' < m → ¬ On Y j'
  | 0 => fun j h => by omega
  | m + 1 => by
    have ih := lastC_ok (Y := Y) m
    unfold lastC
    split
    · rename_i j hj
      split at hj
      · rename_i h
        obtain rfl := Option.some.inj hj
        exact ⟨by omega, getD_on.1 h, fun j' h1 _ => by omega⟩
      · rename_i h
        rw [hj] at ih
        refine ⟨by have := ih.1; omega, ih.2.1, fun j' h1 h2 => ?_⟩
        by_cases he : j' = m
        · subst he; exact absurd (getD_on.2 h2) h
        · exact ih.2.2 j' (by omega) h2
    · rename_i hj
      split at hj
      · cases hj
      · rename_i h
        rw [hj] at ih
        intro j' h1 h2
        by_cases he : j' = m
        · subst he; exact absurd (getD_on.2 h2) h
        · exact ih j' (by omega) h2
theorem findC_fd {r : Rx} {s : ByteArray} (hr : Rx.Ok r) : ∀ f m, s.size + 1 < f + m → Fd (s.size + 1) (r.R s) m (findC r s f m)
  | 0, m, hm => fun i h1 h2 => by omega
  | f + 1, m, hm => by
    unfold findC
    by_cases h : s.size < m
    · rw [if_pos h]
      exact fun i h1 h2 => by omega
    · rw [if_neg h]
      have hc := C_ok s r hr (at1 (s.size + 1) m) (at1_len _ _)
      have hl := lastC_ok (Y := r.C s (at1 (s.size + 1) m)) (s.size + 1)
      rw [hc] at hl ⊢
      have hon : ∀ j, On (img (s.size + 1) (r.R s) (at1 (s.size + 1) m)) j ↔ j < s.size + 1 ∧ r.R s m j := fun j => on_im1 (by omega)
      cases hq : lastC (img (s.size + 1) (r.R s) (at1 (s.size + 1) m)) (s.size + 1) with
      | some j =>
        rw [hq] at hl
        have h1 := (hon j).1 hl.2.1
        exact ⟨Nat.le_refl m, by dsimp only; omega, h1.1, h1.2, fun j' h2 h3 => hl.2.2 j' h2 ((hon j').2 ⟨h2, h3⟩), fun i h2 h3 => by dsimp only at h3; omega⟩
      | none =>
        rw [hq] at hl
        have h0 : ∀ j, j < s.size + 1 → ¬ r.R s m j := fun j h1 h2 => hl j h1 ((hon j).2 ⟨h1, h2⟩)
        have ih := findC_fd (s := s) hr f (m + 1) (by omega)
        cases hf : findC r s f (m + 1) with
        | none =>
          rw [hf] at ih
          intro i h1 h2 j h3
          by_cases he : i = m
          · subst he; exact h0 j h3
          · exact ih i (by omega) h2 j h3
        | some p =>
          rw [hf] at ih
          obtain ⟨a1, a2, a3, a4, a5, a6⟩ := ih
          refine ⟨by omega, a2, a3, a4, a5, fun i h1 h2 j h3 => ?_⟩
          by_cases he : i = m
          · subst he; exact h0 j h3
          · exact a6 i (by omega) h2 j h3
theorem findO_C {r : Rx} {s : ByteArray} (hr : Rx.Ok r) (h0 : rightE r = 0) (m : Nat) : findO r s m = findC r s (s.size + 2) m := (findO_fd h0 s m).uniq (findC_fd hr _ _ (by omega))
def allC (r : Rx) (s : ByteArray) : Nat → Nat → List (Nat × Nat)
  | 0, _ => []
  | n + 1, m => match findC r s (s.size + 2) m with
    | none => []
    | some p => p :: allC r s n (if p.1 = p.2 then p.2 + 1 else p.2)
theorem allF_C {r : Rx} {s : ByteArray} (hr : Rx.Ok r) (h0 : rightE r = 0) : ∀ n m, allF r s n m = allC r s n m
  | 0, m => rfl
  | n + 1, m => by
    rw [allF, allC, findO_C hr h0]
    cases findC r s (s.size + 2) m with
    | none => rfl
    | some p =>
      simp only
      rw [allF_C hr h0 n]
/-- What is asked of an expression that is known. -/
structure Kn (r : Rx) (s : ByteArray) : Prop where
  inn : Rx.In r
  e : rightE r = 0
  hs : s.size ≤ 60
theorem Kn.rt {r : Rx} {s : ByteArray} (h : Kn r s) : Rt r s := ⟨h.inn, ok_of r h.inn, by have := h.hs; omega⟩
theorem Kn.ok {r : Rx} {s : ByteArray} (h : Kn r s) : Rx.Ok r := ok_of r h.inn h.e
theorem k14 {r : Rx} {s : ByteArray} (h : Kn r s) (at_ : Int) {o : Option (Nat × Nat)} (ho : findC r s (s.size + 2) at_.toNat = o) : callP (Lv xp md) 14 [.agg r.cells, .str s, .int .i64 at_] = some [spD o, .bool o.isSome] := by
  rw [f14 r s h.rt at_, findO_C h.ok h.e, ho]
theorem k21 {r : Rx} {s : ByteArray} (h : Kn r s) {l : List (Nat × Nat)} (hl : allC r s (s.size + 2) 0 = l) : callP (Lv xp md) 21 [.agg r.cells, .str s] = some [rdX 32 2 (sp l)] := by
  rw [f21 r s h.rt, allL, if_pos h.e, allF_C h.ok h.e, hl]
theorem k16 {r : Rx} {s : ByteArray} (h : Kn r s) {b : Bool} (hb : some_ (r.C s (List.replicate (s.size + 1) true)) = b) : callP (Lv xp md) 16 [.agg r.cells, .str s] = some [.bool b] := by
  rw [f16 r s h.rt, ← C_ok s r h.ok _ (by simp), hb, h.e]
  simp
theorem k18 {r : Rx} {s : ByteArray} (h : Kn r s) {b : Bool} (hb : (r.C s (at1 (s.size + 1) 0)).getD s.size false = b) : callP (Lv xp md) 18 [.agg r.cells, .str s] = some [.bool b] := by
  obtain ⟨b', h1, h2⟩ := f18 r s h.rt
  rw [h1, h.e]
  rw [← C_ok s r h.ok _ (at1_len _ _), ← getD_on, hb] at h2
  have : b' = b := by cases b' <;> cases b <;> simp_all
  rw [this]
  simp
theorem k12 {r : Rx} {s : ByteArray} (h : Kn r s) (i : Nat) (hi : i ≤ s.size) {l : List Int} (hl : onL (r.C s (at1 (s.size + 1) i)) (s.size + 1) = l) : callP (Lv xp md) 12 [.agg r.cells, .str s, .int .i64 i] = some [rdX 3 1 (bi l)] := by
  rw [f12 r s h.rt i, ends_eq h.e hi, ← C_ok s r h.ok _ (at1_len _ _), hl]
end Go.Proofs.Ytpdamhhaepcffaa.AE
/-
  regexec: lists compared; the examples of the chapter.
-/
set_option linter.unusedVariables false
set_option linter.unusedSimpArgs false
set_option maxHeartbeats 8000000
set_option maxRecDepth 100000
namespace Go.Proofs.Ytpdamhhaepcffaa.AE
open Go
theorem f11n : callP (Lv xp md) 11 [.nls, .nls] = some [.bool true] := by
  refine fn_v (F := F11) rfl ?_
  have c0 : decide (((0 : Nat) : Int) = ((0 : Nat) : Int)) = true := by decide
  refine gK ?_
  refine rn_loop (1) (fun j st => st.e 0 = .nls ∧ st.e 1 = .nls ∧ st.e 5 = .int .i64 (0 : Nat)) (j := 0) ⟨?_, ?_, ?_⟩ (Nat.zero_le _) ?_
  all_goals first | exact eA | exact eB | exact eO | exact eC | exact eD | skip
  rintro j ⟨e, h, k⟩ hj ⟨i0, i1, i5⟩
  dsimp only at i0 i1 i5
  have c1 : decide (((0 : Nat) : Int) < ((0 : Nat) : Int)) = false := by decide
  exact gD
theorem f11i (A : List Int) (hA : A.length ≤ 1000) : callP (Lv xp md) 11 [.isl (bi A), .isl (bi A)] = some [.bool true] := by
  rw [f11a A A hA hA]
  simp
theorem sp_at (l : List (Nat × Nat)) (j : Nat) : (sp l)[j]? = l[j]?.map fun p => [.int .i64 p.1, .int .i64 p.2] := by simp [sp]
theorem f20n : callP (Lv xp md) 20 [.nls, .nls] = some [.bool true] := by
  refine fn_v (F := F20) rfl ?_
  have c0 : decide (((0 : Nat) : Int) = ((0 : Nat) : Int)) = true := by decide
  refine gK ?_
  refine rn_loop (1) (fun j st => st.e 0 = .nls ∧ st.e 1 = .nls ∧ st.e 5 = .int .i64 (0 : Nat)) (j := 0) ⟨?_, ?_, ?_⟩ (Nat.zero_le _) ?_
  all_goals first | exact eA | exact eB | exact eO | exact eC | exact eD | skip
  rintro j ⟨e, h, k⟩ hj ⟨i0, i1, i5⟩
  dsimp only at i0 i1 i5
  have c1 : decide (((0 : Nat) : Int) < ((0 : Nat) : Int)) = false := by decide
  exact gD
theorem f20i (A : List (Nat × Nat)) (hA : A.length ≤ 1000) : callP (Lv xp md) 20 [.isl (sp A), .isl (sp A)] = some [.bool true] := by
  refine fn_v (F := F20) rfl ?_
  have b1 := sp_len A
  have b2 := sp_at A
  have c0 : decide ((A.length : Int) = (A.length : Int)) = true := by simp
  refine gK ?_
  refine rn_loop (A.length) (fun j st => st.e 0 = .isl (sp A) ∧ st.e 1 = .isl (sp A) ∧ st.e 5 = .int .i64 j) (j := 0) ⟨?_, ?_, ?_⟩ (Nat.zero_le _) ?_
  all_goals first | exact eA | exact eB | exact eO | exact eC | exact eD | skip
  rintro j ⟨e, h, k⟩ hj ⟨i0, i1, i5⟩
  dsimp only at i0 i1 i5
  clear c0
  rcases nextC hj with ⟨hlt, c1⟩ | ⟨rfl, c1⟩
  · obtain ⟨x, hx⟩ := at_lt hlt
    have w1 := inc64 j (by omega)
    have q1 : ((x.1 : Int) == (x.1 : Int)) = true := by simp
    have q2 : ((x.2 : Int) == (x.2 : Int)) = true := by simp
    refine gK ?_
    refine ⟨by omega, ?_, ?_, ?_⟩
    all_goals first | exact eC | exact eO | exact eD | skip
  · exact gD
def rA : Rx := .mk 1 true [(97, 97)] 0 0 []
def rB : Rx := .mk 1 true [(98, 98)] 0 0 []
def rC : Rx := .mk 1 true [(99, 99)] 0 0 []
def rF : Rx := .mk 1 true [(102, 102)] 0 0 []
def rPlus : Rx := .mk 4 true [] 1 (-1) [rB]
def rStar : Rx := .mk 4 true [] 0 (-1) [rA]
def rAlt : Rx := .mk 3 true [] 0 0 [rA, .mk 2 true [] 0 0 [rA, rB]]
def rAbc : Rx := .mk 2 true [] 0 0 [rA, rPlus, rC]
def rBeg : Rx := .mk 2 true [] 0 0 [.mk 5 true [] 0 0 [], rB]
def rBnd : Rx := .mk 2 true [] 0 0 [.mk 7 true [] 0 0 [], rF, .mk 7 true [] 0 0 []]
theorem in1 (k : Int) (set : List (Int × Int)) (hs : set.length ≤ 1) : Rx.In (.mk k true set 0 0 []) := .mk (by omega) (by simp) (fun r h => by cases h)
theorem inA : Rx.In rA := in1 1 _ (by simp)
theorem inB : Rx.In rB := in1 1 _ (by simp)
theorem inC : Rx.In rC := in1 1 _ (by simp)
theorem inF : Rx.In rF := in1 1 _ (by simp)
theorem inl {k : Int} {mn mx : Int} {l : List Rx} (hl : l.length ≤ 3) (h : ∀ r, r ∈ l → Rx.In r) : Rx.In (.mk k true [] mn mx l) := .mk (by simp) (by omega) h
theorem inPlus : Rx.In rPlus := inl (by simp) (by simp [inB])
theorem inStar : Rx.In rStar := inl (by simp) (by simp [inA])
theorem inAlt : Rx.In rAlt := inl (by simp) (by simp only [List.mem_cons, List.not_mem_nil, or_false]; rintro r (rfl | rfl); exact inA; exact inl (by simp) (by simp [inA, inB]))
theorem inAbc : Rx.In rAbc := inl (by simp) (by simp [inA, inPlus, inC])
theorem inBeg : Rx.In rBeg := inl (by simp) (by simp [inB, in1])
theorem inBnd : Rx.In rBnd := inl (by simp) (by simp [inF, in1])
def sXabbc : ByteArray := ByteArray.mk #[120, 97, 98, 98, 99]
def sAab : ByteArray := ByteArray.mk #[97, 97, 98]
def sAbab : ByteArray := ByteArray.mk #[97, 98, 97, 98]
def sAnb : ByteArray := ByteArray.mk #[97, 10, 98]
def sFdb : ByteArray := ByteArray.mk #[102, 46, 98]
def sFb : ByteArray := ByteArray.mk #[102, 98]
def sAa : ByteArray := ByteArray.mk #[97, 97]
def sAb : ByteArray := ByteArray.mk #[97, 98]
theorem a14a : callP (Lv xp md) 14 [.agg rAbc.cells, .str sXabbc, .int .i64 0] = some [.agg [.int .i64 1, .int .i64 5], .bool true] := k14 ⟨inAbc, by kernel_rfl, by decide⟩ 0 (o := some (1, 5)) (by kernel_rfl)
theorem a12a : callP (Lv xp md) 12 [.agg rAbc.cells, .str sXabbc, .int .i64 0] = some [.nls] := k12 ⟨inAbc, by kernel_rfl, by decide⟩ 0 (by decide) (l := []) (by kernel_rfl)
theorem a21a : callP (Lv xp md) 21 [.agg rStar.cells, .str sAab] = some [.own 32 2 [[.int .i64 0, .int .i64 2], [.int .i64 2, .int .i64 2], [.int .i64 3, .int .i64 3]]] := k21 ⟨inStar, by kernel_rfl, by decide⟩ (l := [(0, 2), (2, 2), (3, 3)]) (by kernel_rfl)
theorem a21b : callP (Lv xp md) 21 [.agg rAlt.cells, .str sAbab] = some [.own 32 2 [[.int .i64 0, .int .i64 2], [.int .i64 2, .int .i64 4]]] := k21 ⟨inAlt, by kernel_rfl, by decide⟩ (l := [(0, 2), (2, 4)]) (by kernel_rfl)
theorem a14b : callP (Lv xp md) 14 [.agg rBeg.cells, .str sAnb, .int .i64 0] = some [.agg [.int .i64 2, .int .i64 3], .bool true] := k14 ⟨inBeg, by kernel_rfl, by decide⟩ 0 (o := some (2, 3)) (by kernel_rfl)
theorem a16a : callP (Lv xp md) 16 [.agg rBnd.cells, .str sFdb] = some [.bool true] := k16 ⟨inBnd, by kernel_rfl, by decide⟩ (by kernel_rfl)
theorem a16b : callP (Lv xp md) 16 [.agg rBnd.cells, .str sFb] = some [.bool false] := k16 ⟨inBnd, by kernel_rfl, by decide⟩ (by kernel_rfl)
theorem a18a : callP (Lv xp md) 18 [.agg rStar.cells, .str sAa] = some [.bool true] := k18 ⟨inStar, by kernel_rfl, by decide⟩ (by kernel_rfl)
theorem a18b : callP (Lv xp md) 18 [.agg rStar.cells, .str sAb] = some [.bool false] := k18 ⟨inStar, by kernel_rfl, by decide⟩ (by kernel_rfl)
theorem a20a : callP (Lv xp md) 20 [.isl [[.int .i64 0, .int .i64 2], [.int .i64 2, .int .i64 2], [.int .i64 3, .int .i64 3]], .isl [[.int .i64 0, .int .i64 2], [.int .i64 2, .int .i64 2], [.int .i64 3, .int .i64 3]]] = some [.bool true] := f20i [(0, 2), (2, 2), (3, 3)] (by simp)
theorem a20b : callP (Lv xp md) 20 [.isl [[.int .i64 0, .int .i64 2], [.int .i64 2, .int .i64 4]], .isl [[.int .i64 0, .int .i64 2], [.int .i64 2, .int .i64 4]]] = some [.bool true] := f20i [(0, 2), (2, 4)] (by simp)
theorem f10 : callP (Lv xp md) 10 [] = some [.bool true] := by
  have s26a := f26 97
  have s26b := f26 98
  have s26c := f26 99
  have s26f := f26 102
  have s23 : ∀ xs : List (List D), callP (Lv xp md) 23 [.isl xs] = some [.agg [.int .i64 2, .nls, .int .i64 0, .int .i64 0, .isl xs]] := fun xs => f23 xs rfl
  have a14a := a14a
  have a12a := a12a
  have a21a := a21a
  have a21b := a21b
  have a14b := a14b
  have a16a := a16a
  have a16b := a16b
  have a18a := a18a
  have a18b := a18b
  have a20a := a20a
  have a20b := a20b
  simp only [rAbc, rBeg, rBnd, rAlt, rStar, rPlus, rA, rB, rC, rF, sXabbc, sAab, sAbab, sAnb, sFdb, sFb, sAa, sAb, Rx.cells, Rx.rows, rz, rl, rq, List.isEmpty_nil, List.isEmpty_cons, Bool.and_true, Bool.and_false, Bool.and_self, if_true, Bool.false_eq_true, if_false, List.map_cons, List.map_nil] at a14a a12a a21a a21b a14b a16a a16b a18a a18b
  have q1 : ((1 : Int) == 1) = true := rfl
  have q2 : ((2 : Int) == 2) = true := rfl
  have q3 : ((3 : Int) == 3) = true := rfl
  have q5 : ((5 : Int) == 5) = true := rfl
  have c0 : decide (((0 : Nat) : Int) = 0) = true := rfl
  refine fn_v (F := F10) rfl ?_
  exact gD
end Go.Proofs.Ytpdamhhaepcffaa.AE
/-
  regexec: the laws Ends, Finds, Alls, First, Apart.
-/
set_option linter.unusedVariables false
set_option linter.unusedSimpArgs false
set_option maxHeartbeats 8000000
set_option maxRecDepth 100000
namespace Go.Proofs.Ytpdamhhaepcffaa.AE
open Go
theorem rt_of {r : Rx} {s : ByteArray} (hr : Rx.In r) (hs : s.size ≤ 60) : Rt r s := ⟨hr, ok_of r hr, by omega⟩
theorem law3 (r : Rx) (s : ByteArray) (at_ : Int) (hr : Rx.In r) : callP (Lv xp md) 3 [.agg r.cells, .str s, .int .i64 at_] = some [.bool true] := by
  have s10 := f10
  obtain ⟨xl, xi, xt, xd, xf, xc, xz⟩ := cellsF r
  refine fn_v (F := F3) rfl ?_
  rcases Nat.lt_or_ge 60 s.size with h | h
  · have c1 : decide ((60 : Int) < (s.size : Int)) = true := decide_eq_true (by omega)
    exact gD
  · have c1 : decide ((60 : Int) < (s.size : Int)) = false := decide_eq_false (by omega)
    have s12 := f12 r s (rt_of hr h) at_
    have s13 := f13 r s (rt_of hr h) at_
    have hl := endsL_len r s at_
    generalize endsL r s at_ = l at *
    have s11n := f11n
    have s11 := f11i l (by omega)
    rcases rdX_cases 3 1 (bi l) with ⟨h1, h2⟩ | ⟨h1, h2⟩
    · rw [h2] at s12 s13
      clear s11 h2 h1
      exact gD
    · rw [h2] at s12 s13
      clear s11n h2 h1
      exact gD
theorem law4 (r : Rx) (s : ByteArray) (at_ : Int) (hr : Rx.In r) (hat : -9223372036854775808 ≤ at_ ∧ at_ < 9223372036854775808) : callP (Lv xp md) 4 [.agg r.cells, .str s, .int .i64 at_] = some [.bool true] := by
  have s10 := f10
  obtain ⟨xl, xi, xt, xd, xf, xc, xz⟩ := cellsF r
  refine fn_v (F := F4) rfl ?_
  rcases Nat.lt_or_ge 60 s.size with h | h
  · have c1 : decide ((60 : Int) < (s.size : Int)) = true := decide_eq_true (by omega)
    clear hat
    exact gD
  · have c1 : decide ((60 : Int) < (s.size : Int)) = false := decide_eq_false (by omega)
    have s14 := f14 r s (rt_of hr h) at_
    have s15 := f15 r s (rt_of hr h) at_ hat
    have s16 := f16 r s (rt_of hr h)
    have s17 := f17 r s (rt_of hr h)
    have s18 := f18w r s (rt_of hr h)
    have s19 := f19 r s (rt_of hr h)
    obtain ⟨a, b, hab⟩ := spD_cases (findO r s at_.toNat)
    rw [hab] at s14 s15
    generalize (findO r s at_.toNat).isSome = q at *
    generalize wholeB r s = q2 at *
    generalize (decide (rightE r = 0) && some_ (img (s.size + 1) (Rx.R s r) (List.replicate (s.size + 1) true))) = q3 at *
    have e1 : (a == a) = true := by simp
    have e2 : (b == b) = true := by simp
    clear hat hab
    exact gD
theorem law5 (r : Rx) (s : ByteArray) (hr : Rx.In r) : callP (Lv xp md) 5 [.agg r.cells, .str s] = some [.bool true] := by
  have s10 := f10
  obtain ⟨xl, xi, xt, xd, xf, xc, xz⟩ := cellsF r
  refine fn_v (F := F5) rfl ?_
  rcases Nat.lt_or_ge 60 s.size with h | h
  · have c1 : decide ((60 : Int) < (s.size : Int)) = true := decide_eq_true (by omega)
    exact gD
  · have c1 : decide ((60 : Int) < (s.size : Int)) = false := decide_eq_false (by omega)
    have s21 := f21 r s (rt_of hr h)
    have s22 := f22 r s (rt_of hr h)
    have hl : ∀ n m, (allF r s n m).length ≤ n := by
      intro n
      induction n with
      | zero => intro m; simp [allF]
      | succ n ih =>
        intro m
        unfold allF
        split
        · simp
        · simp; exact ih _
    have hll : (allL r s).length ≤ 1000 := by rw [allL_eq]; have := hl (s.size + 2) 0; omega
    clear hl
    generalize allL r s = l at *
    have s20n := f20n
    have s20 := f20i l hll
    rcases rdX_cases 32 2 (sp l) with ⟨h1, h2⟩ | ⟨h1, h2⟩
    · rw [h2] at s21 s22
      clear s20 h2 h1
      exact gD
    · rw [h2] at s21 s22
      clear s20n h2 h1
      exact gD
noncomputable def matchB (r : Rx) (s : ByteArray) : Bool := decide (rightE r = 0) && some_ (img (s.size + 1) (r.R s) (List.replicate (s.size + 1) true))
theorem match_iff {r : Rx} {s : ByteArray} : matchB r s = true ↔ rightE r = 0 ∧ ∃ i j, i < s.size + 1 ∧ j < s.size + 1 ∧ r.R s i j := by
  unfold matchB
  rw [Bool.and_eq_true, decide_eq_true_eq, some_iff]
  constructor
  · rintro ⟨h0, j, hj⟩
    obtain ⟨h1, i, h2, h3⟩ := on_img.1 hj
    have := on_lt h2
    rw [List.length_replicate] at this
    exact ⟨h0, i, j, this, h1, h3⟩
  · rintro ⟨h0, i, j, h1, h2, h3⟩
    refine ⟨h0, j, on_img.2 ⟨h2, i, ?_, h3⟩⟩
    unfold On
    simp [h1]
theorem find_some {r : Rx} {s : ByteArray} {m : Nat} {i j : Nat} (h : findO r s m = some (i, j)) : rightE r = 0 ∧ m ≤ i ∧ i < s.size + 1 ∧ j < s.size + 1 ∧ r.R s i j ∧ (∀ j', j' < s.size + 1 → r.R s i j' → j' ≤ j) ∧ ∀ i', m ≤ i' → i' < i → ∀ j, j < s.size + 1 → ¬ r.R s i' j := by
  by_cases hr : rightE r = 0
  · have h1 := findO_fd hr s m
    rw [h] at h1
    exact ⟨hr, h1⟩
  · rw [findO_no hr] at h
    cases h
theorem match_some {r : Rx} {s : ByteArray} {m : Nat} {p : Nat × Nat} (h : findO r s m = some p) : matchB r s = true := by
  obtain ⟨i, j⟩ := p
  obtain ⟨h0, h1, h2, h3, h4, _, _⟩ := find_some h
  exact match_iff.2 ⟨h0, i, j, h2, h3, h4⟩
theorem match_none {r : Rx} {s : ByteArray} (h : findO r s 0 = none) : matchB r s = false := by
  cases hm : matchB r s with
  | false => rfl
  | true =>
    obtain ⟨h0, i, j, h1, h2, h3⟩ := match_iff.1 hm
    have h4 := findO_fd h0 s 0
    rw [h] at h4
    exact absurd h3 (h4 i (Nat.zero_le _) h1 j h2)
theorem match_find {r : Rx} {s : ByteArray} : matchB r s = (findO r s 0).isSome := by
  cases h : findO r s 0 with
  | none => exact match_none h
  | some p => exact match_some h
theorem ends_nil {r : Rx} {s : ByteArray} {m i : Nat} (hi : i ≤ s.size) (hm : m ≤ i) (h : ∀ p, findO r s m = some p → i < p.1) : endsL r s i = [] := by
  by_cases hl : endsL r s i = []
  · exact hl
  · exfalso
    obtain ⟨h0, j, h1, h2, h3, _⟩ := ends_some hi hl
    have h4 := findO_fd h0 s m
    cases hf : findO r s m with
    | none =>
      rw [hf] at h4
      exact h4 i hm (by omega) j h2 h3
    | some p =>
      rw [hf] at h4
      exact h4.2.2.2.2.2 i hm (h p hf) j h2 h3
theorem law6 (r : Rx) (s : ByteArray) (at_ : Int) (hr : Rx.In r) (hat : -9223372036854775808 ≤ at_ ∧ at_ < 9223372036854775808) : callP (Lv xp md) 6 [.agg r.cells, .str s, .int .i64 at_] = some [.bool true] := by
  have s10 := f10
  obtain ⟨xl, xi, xt, xd, xf, xc, xz⟩ := cellsF r
  refine fn_v (F := F6) rfl ?_
  rcases Nat.lt_or_ge 60 s.size with h | h
  · have c1 : decide ((60 : Int) < (s.size : Int)) = true := decide_eq_true (by omega)
    clear hat
    exact gD
  have c1 : decide ((60 : Int) < (s.size : Int)) = false := decide_eq_false (by omega)
  have s14 := f14 r s (rt_of hr h) at_
  have s16 : callP (Lv xp md) 16 [.agg r.cells, .str s] = some [.bool (matchB r s)] := f16 r s (rt_of hr h)
  have s12 := fun i => f12 r s (rt_of hr h) i
  obtain ⟨m, hm, hmx⟩ : ∃ m : Nat, at_.toNat = m ∧ (max at_ 0 : Int) = m := ⟨at_.toNat, rfl, by omega⟩
  have hm0 : decide ((0 : Int) < at_) = false → m = 0 := fun h => by have := of_decide_eq_false h; omega
  rw [hm] at s14
  have hms : ∀ p, findO r s m = some p → matchB r s = true := fun p => match_some
  have hmn : m = 0 → findO r s m = none → matchB r s = false := fun h0 h => by subst h0; exact match_none h
  have hnil : ∀ i, i ≤ s.size → m ≤ i → (∀ p, findO r s m = some p → i < p.1) → endsL r s i = [] := fun i h1 h2 h3 => ends_nil h1 h2 h3
  generalize matchB r s = mb at *
  clear hm hat
  cases ho : findO r s m with
  | none =>
    rw [ho, spD, show (none : Option (Nat × Nat)).isSome = false from rfl] at s14
    have hmn' : m = 0 → mb = false := fun h0 => hmn h0 ho
    have hnil' : ∀ i, i ≤ s.size → m ≤ i → endsL r s i = [] := fun i h1 h2 => hnil i h1 h2 (fun p hp => by rw [ho] at hp; cases hp)
    clear hms hmn hnil ho
    refine gK ?_
    refine rn_loop (s.size + 1 - m) (fun c st => st.e 1 = .str s ∧ st.e 2 = .int .i64 at_ ∧ st.e 3 = .ptr 0 0 0 ∧ st.e 7 = .ptr 112 0 0 ∧ st.e 8 = .bool false ∧ st.e 9 = .int .i64 ((m + c : Nat) : Int) ∧ st.h 0 = .var r.cells true ∧ st.h 112 = .var [.int .i64 0, .int .i64 0] true ∧ 160 ≤ st.k) (j := 0) ⟨?_, ?_, ?_, ?_, ?_, ?_, ?_, ?_, ?_⟩ (Nat.zero_le _) ?_
    all_goals first | exact eA | exact eB | exact eO | exact eC | exact eD | skip
    rintro c ⟨e, h, k⟩ hc ⟨i1, i2, i3, i7, i8, i9, b0, b112, ik⟩
    dsimp only at i1 i2 i3 i7 i8 i9 b0 b112 ik
    have n1 : ∀ c, c < 160 → (c = k) = False := fun c hc => by simp; omega
    have n2 : ∀ c, c < 160 → (k = c) = False := fun c hc => by simp; omega
    rcases Nat.lt_or_ge c (s.size + 1 - m) with hlt | hge
    · generalize hi : m + c = i at *
      have d1 : decide ((i : Int) ≤ (s.size : Int)) = true := decide_eq_true (by omega)
      have w1 := inc64 i (by omega)
      have s12i := s12 i
      rw [hnil' i (by omega) (by omega), show rdX 3 1 (bi []) = .nls from rfl] at s12i
      have hic : m + c ≤ i ∧ i ≤ m + c := by omega
      have hic2 : m + (c + 1) = i + 1 := by omega
      have c2 : decide ((0 : Int) < ((0 : Nat) : Int)) = false := by decide
      rw [← hic2] at w1
      clear s12 hi hnil' hmn' hm0 hmx
      refine gK ?_
      refine ⟨by omega, ?_, ?_, ?_, ?_, ?_, ?_, ?_, ?_, ?_⟩
      all_goals first | exact eC | exact eO | exact eD | skip
    · have d1 : decide (((m + c : Nat) : Int) ≤ (s.size : Int)) = false := decide_eq_false (by omega)
      clear s12 hnil' hmx
      cases hd : decide ((0 : Int) < at_) with
      | true =>
        clear hm0 hmn'
        exact gD
      | false =>
        have hmf := hmn' (hm0 hd)
        subst hmf
        clear hm0 hmn'
        exact gD
  | some p =>
    obtain ⟨i0, j0⟩ := p
    obtain ⟨h0, hmi, hi0, hj0, hR, hlong, hfst⟩ := find_some ho
    have hmt := hms _ ho
    subst hmt
    rw [ho, spD, show (some (i0, j0)).isSome = true from rfl] at s14
    dsimp only at s14
    have hnil' : ∀ i, i ≤ s.size → m ≤ i → i < i0 → endsL r s i = [] := fun i h1 h2 h3 => hnil i h1 h2 (fun p hp => by rw [ho] at hp; obtain rfl := Option.some.inj hp; exact h3)
    clear hms hmn hnil hfst hm0
    refine gK ?_
    refine rn_loop (s.size + 1 - m) (fun c st => st.e 1 = .str s ∧ st.e 2 = .int .i64 at_ ∧ st.e 3 = .ptr 0 0 0 ∧ st.e 7 = .ptr 112 0 0 ∧ st.e 8 = .bool true ∧ st.e 9 = .int .i64 ((m + c : Nat) : Int) ∧ st.h 0 = .var r.cells true ∧ st.h 112 = .var [.int .i64 i0, .int .i64 j0] true ∧ (m + c ≤ i0) ∧ 160 ≤ st.k) (j := 0) ⟨?_, ?_, ?_, ?_, ?_, ?_, ?_, ?_, hmi, ?_⟩ (Nat.zero_le _) ?_
    all_goals first | exact eA | exact eB | exact eO | exact eC | exact eD | skip
    rintro c ⟨e, h, k⟩ hc ⟨i1, i2, i3, i7, i8, i9, b0, b112, iv, ik⟩
    dsimp only at i1 i2 i3 i7 i8 i9 b0 b112 ik
    have n1 : ∀ c, c < 160 → (c = k) = False := fun c hc => by simp; omega
    have n2 : ∀ c, c < 160 → (k = c) = False := fun c hc => by simp; omega
    generalize hi : m + c = i at *
    have d1 : decide ((i : Int) ≤ (s.size : Int)) = true := decide_eq_true (by omega)
    have w1 := inc64 i (by omega)
    have s12i := s12 i
    have hic : m + c ≤ i ∧ i ≤ m + c := by omega
    have hic2 : m + (c + 1) = i + 1 := by omega
    rcases Nat.lt_or_ge i i0 with hlt | hge
    · rw [hnil' i (by omega) (by omega) hlt, show rdX 3 1 (bi []) = .nls from rfl] at s12i
      have c2 : decide ((0 : Int) < ((0 : Nat) : Int)) = false := by decide
      have c3 : decide ((i : Int) = (i0 : Int)) = false := decide_eq_false (by omega)
      rw [← hic2] at w1
      have iv2 : m + (c + 1) ≤ i0 := by omega
      have hcl : c < s.size + 1 - m := by omega
      clear s12 hi hnil' hmx hlong hR ho iv
      refine gK ?_
      refine ⟨by omega, ?_, ?_, ?_, ?_, ?_, ?_, ?_, ?_, iv2, ?_⟩
      all_goals first | exact eC | exact eO | exact eD | skip
    · obtain rfl : i = i0 := by omega
      have hne : endsL r s i ≠ [] := fun he => ends_none (by omega) he h0 j0 hj0 hR
      obtain ⟨_, j, e1, e2, e3, e4⟩ := ends_some (by omega) hne
      obtain rfl : j = j0 := by have := hlong j e2 e3; have := e4 j0 hj0 hR; omega
      rw [rdX_ne (bi_ne hne)] at s12i
      have hll := endsL_len r s i
      have hbl := bi_len (endsL r s i)
      have hba : (bi (endsL r s i))[(endsL r s i).length - 1]? = some [.int .i64 j] := by simp only [bi, List.getElem?_map, e1, Option.map_some]
      have hpos : 0 < (endsL r s i).length := List.length_pos_iff.2 hne
      clear hnil' s12
      generalize (endsL r s i) = l at *
      have c4 : decide ((0 : Int) < (l.length : Int)) = true := by simp; omega
      have w2 : IntKind.i64.wrap ((l.length : Int) - 1) = ((l.length - 1 : Nat) : Int) := by rw [wrapN (by omega) (by omega)]; omega
      have hlt2 : l.length - 1 < l.length := by omega
      clear hne e1 e2 e3 e4 hR hlong ho hpos hll iv hi hic2 w1 hmx
      generalize l.length - 1 = q at *
      exact gD
end Go.Proofs.Ytpdamhhaepcffaa.AE
