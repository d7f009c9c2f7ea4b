/-
  types: the declarations in plain words, and small functions.
-/
import Derived.Test.YtoemdhcnfmkkaaaRules
set_option linter.unusedVariables false
set_option linter.unusedSimpArgs false
namespace Go.Proofs.Ytoemdhcnfmkkaaa.AE
open Go
theorem nextC {j n : Nat} (h : j ≤ n) : (j < n ∧ decide ((j : Int) < (n : Int)) = true) ∨ (j = n ∧ decide ((j : Int) < (n : Int)) = false) := by
  rcases Nat.lt_or_ge j n with h1 | h1
  · exact .inl ⟨h1, by simp; omega⟩
  · exact .inr ⟨by omega, by simp; omega⟩
theorem at_lt {α : Type} {l : List α} {j : Nat} (h : j < l.length) : ∃ x, l[j]? = some x := ⟨l[j], List.getElem?_eq_getElem h⟩
def basic (t : ByteArray) : Bool := decide (t = ByteArray.mk #[105, 110, 116]) || decide (t = ByteArray.mk #[98, 111, 111, 108]) || decide (t = ByteArray.mk #[115, 116, 114, 105, 110, 103]) || decide (t = ByteArray.mk #[118, 111, 105, 100])
/-- A list of strings. -/
def sl (l : List ByteArray) : List (List D) := l.map fun s => [.str s]
theorem sl_at (l : List ByteArray) (j : Nat) : (sl l)[j]? = l[j]?.map fun s => [.str s] := by simp [sl]
theorem sl_len (l : List ByteArray) : (sl l).length = l.length := by simp [sl]
/-- The same, nil where z says so and it is empty. -/
def ld (z : Bool) (l : List ByteArray) : D := if z && l.isEmpty then .nls else .isl (sl l)
theorem ld_f (l : List ByteArray) : ld false l = .isl (sl l) := rfl
theorem ld_t : ld true [] = .nls := rfl
theorem ld_c (z : Bool) (x : ByteArray) (l : List ByteArray) : ld z (x :: l) = .isl (sl (x :: l)) := by cases z <;> rfl
theorem ld_cases (z : Bool) (l : List ByteArray) : ld z l = .isl (sl l) ∨ (ld z l = .nls ∧ l = []) := by
  cases z with
  | false => exact .inl rfl
  | true => cases l with
    | nil => exact .inr ⟨rfl, rfl⟩
    | cons => exact .inl rfl
theorem ld_elems (h : Hp) (z : Bool) (l : List ByteArray) : elems h (ld z l) = some (sl l) := by
  rcases ld_cases z l with e | ⟨e, rfl⟩ <;> rw [e] <;> rfl
theorem ld_frz (n : Nat) (h : Hp) (z : Bool) (l : List ByteArray) : frz (n + 1) h (ld z l) = some (ld z l, h) := by
  rcases ld_cases z l with e | ⟨e, rfl⟩ <;> rw [e] <;> rfl
theorem ld_ret (h : Hp) (z : Bool) (l : List ByteArray) (r : List D) : retL h (ld z l :: r) = (retL h r).bind fun q => some (ld z l :: q) := by
  rcases ld_cases z l with e | ⟨e, rfl⟩ <;> rw [e] <;> rfl
theorem ld_cells (z : Bool) (l : List ByteArray) : D.cells (ld z l) = some [ld z l] := by
  rcases ld_cases z l with e | ⟨e, rfl⟩ <;> rw [e] <;> rfl
theorem ld_leaf (z : Bool) (l : List ByteArray) : D.leaf (ld z l) = true := by
  rcases ld_cases z l with e | ⟨e, rfl⟩ <;> rw [e] <;> rfl
theorem ld_im (z : Bool) (l : List ByteArray) : D.im (ld z l) = true := by
  rcases ld_cases z l with e | ⟨e, rfl⟩ <;> rw [e] <;> rfl
theorem ld_nm (z : Bool) (l : List ByteArray) : D.nm (ld z l) = [] := by
  rcases ld_cases z l with e | ⟨e, rfl⟩ <;> rw [e] <;> rfl
theorem ld_sc (z : Bool) (l : List ByteArray) : D.scalar (ld z l) = false := by
  rcases ld_cases z l with e | ⟨e, rfl⟩ <;> rw [e] <;> rfl
theorem ld_tk (h : Hp) (k : Nat) (z : Bool) (l : List ByteArray) (r : List D) : takeIn h k (ld z l :: r) = (ld z l :: (takeIn h (k + 1) r).1, (takeIn h (k + 1) r).2) := by
  rcases ld_cases z l with e | ⟨e, rfl⟩ <;> rw [e] <;> rfl
theorem ld_ia (h : Hp) (z : Bool) (l : List ByteArray) (j : Nat) : iaD h 1 j (ld z l) = (l[j]?).bind fun x => some (.ipt [.str x] 0, h) := by
  rcases ld_cases z l with e | ⟨e, rfl⟩
  · rw [e]; simp only [iaD, sl_at]; cases l[j]? <;> rfl
  · rw [e]; rfl
/-- A declaration; pz, sz: its lists are nil. -/
structure Dc where
  id : Int
  kind : Int
  name : ByteArray
  parent : Int
  type : ByteArray
  pz : Bool
  params : List ByteArray
  sz : Bool
  supers : List ByteArray
  super : Bool
  doc : Int
  at_ : Int
  end_ : Int
def Dc.cells (d : Dc) : List D := [.int .i64 d.id, .int .i64 d.kind, .str d.name, .int .i64 d.parent, .str d.type, ld d.pz d.params, ld d.sz d.supers, .bool d.super, .int .i64 d.doc, .int .i64 d.at_, .int .i64 d.end_]
/-- The declaration of no words. -/
def zd : Dc := ⟨0, 0, ByteArray.mk #[], 0, ByteArray.mk #[], true, [], true, [], false, 0, 0, 0⟩
def dl (l : List Dc) : List (List D) := l.map Dc.cells
theorem dl_at (l : List Dc) (j : Nat) : (dl l)[j]? = l[j]?.map Dc.cells := by simp [dl]
theorem dl_len (l : List Dc) : (dl l).length = l.length := by simp [dl]
theorem dc_cells (d : Dc) : d.cells = [.int .i64 d.id, .int .i64 d.kind, .str d.name, .int .i64 d.parent, .str d.type, ld d.pz d.params, ld d.sz d.supers, .bool d.super, .int .i64 d.doc, .int .i64 d.at_, .int .i64 d.end_] := rfl
theorem zd_eq : (zd.id = 0 ∧ zd.kind = 0 ∧ zd.name = ByteArray.mk #[] ∧ zd.parent = 0) ∧ (zd.type = ByteArray.mk #[] ∧ zd.pz = true ∧ zd.params = [] ∧ zd.sz = true) ∧ zd.supers = [] ∧ zd.super = false ∧ zd.doc = 0 ∧ zd.at_ = 0 ∧ zd.end_ = 0 := ⟨⟨rfl, rfl, rfl, rfl⟩, ⟨rfl, rfl, rfl, rfl⟩, rfl, rfl, rfl, rfl, rfl⟩
def orz : Option Dc → Dc
  | some d => d
  | none => zd
theorem orz_some (d : Dc) : orz (some d) = d := rfl
theorem orz_none : orz none = zd := rfl
attribute [go_sem] sl_at sl_len ld_t ld_elems ld_frz ld_ret ld_cells ld_leaf ld_im ld_nm ld_ia ld_sc ld_tk dl_at dl_len dc_cells zd_eq orz_some orz_none Option.isSome_some Option.isSome_none
def has (l : List ByteArray) (t : ByteArray) : Bool := l.any fun s => decide (s = t)
theorem has_no {l : List ByteArray} {t : ByteArray} (h : ∀ i, i < l.length → l[i]? ≠ some t) : has l t = false := by
  unfold has
  rw [List.any_eq_false]
  intro x hx
  obtain ⟨i, hi⟩ := List.getElem?_of_mem hx
  have : i < l.length := (List.getElem?_eq_some_iff.1 hi).1
  simp only [decide_eq_true_eq]
  rintro rfl
  exact h i this hi
theorem has_yes {l : List ByteArray} {t : ByteArray} {i : Nat} (h : l[i]? = some t) : has l t = true := by
  unfold has
  rw [List.any_eq_true]
  exact ⟨t, List.mem_of_getElem? h, by simp⟩
def obj (d : Dc) : Bool := decide (d.kind = 3) || decide (d.kind = 4)
def find (l : List Dc) (t : ByteArray) : Option Dc := l.find? fun d => decide (d.name = t)
def named (l : List Dc) (t : ByteArray) : Option Dc := (find l t).filter obj
theorem find_at {l : List Dc} {t : ByteArray} {j : Nat} {d : Dc} (hd : l[j]? = some d) (hn : d.name = t) (hb : ∀ i x, i < j → l[i]? = some x → x.name ≠ t) : find l t = some d := by
  unfold find
  obtain ⟨hj, rfl⟩ := List.getElem?_eq_some_iff.1 hd
  rw [List.find?_eq_some_iff_getElem]
  exact ⟨by simpa using hn, j, hj, rfl, fun i hi => by have := hb i _ hi (List.getElem?_eq_getElem (by omega)); simpa using this⟩
theorem find_no {l : List Dc} {t : ByteArray} (hb : ∀ i x, i < l.length → l[i]? = some x → x.name ≠ t) : find l t = none := by
  unfold find
  rw [List.find?_eq_none]
  intro x hx
  obtain ⟨i, hi⟩ := List.getElem?_of_mem hx
  have := hb i x (List.getElem?_eq_some_iff.1 hi).1 hi
  simpa using this
theorem f12 (t : ByteArray) : callP (Lv xp md) 12 [.str t] = some [.bool (basic t)] := by
  refine fn_v (F := F12) rfl ?_
  repeat' (first | intro _ | ((with_reducible first | apply s_p | apply s_n); rotate_left 1; exact ev_; rfl) | (with_reducible first | apply s_zn | apply s_zb | apply rn_seq | apply rn_blk | apply w_sn | apply w_sb | apply x_b0 | apply x_nx | apply r_nx | apply r_bk | apply n_nx | apply n_bk | apply q_nx | apply q_bk) | ((with_reducible apply s_gt); rotate_left 1; exact ev_) | ((with_reducible apply s_gf); rotate_left 1; exact a0_) | ((with_reducible apply s_gu); rotate_left 1; exact ev_) | ((with_reducible apply s_cs); rotate_left 1; rfl; exact ev_; exact fv_; rfl) | ((with_reducible apply s_cv); rotate_left 1; rfl; exact ev_; exact fv_; exact a1_; exact a2_; exact tk_) | ((with_reducible apply s_vs); rotate_left 1; exact ev_; rfl; exact ev_; exact fv_; rfl) | ((with_reducible first | apply s_g1 | apply s_g0); rotate_left 2; exact ev_) | ((with_reducible first | apply w_r | apply w_d); rotate_left 1; exact a7_; exact a8_) | ((with_reducible apply w_t); rotate_left 1; exact ev_) | ((with_reducible apply w_f); rotate_left 1; exact ev_) | ((with_reducible apply w_i); rotate_left 2; exact ev_) | ((with_reducible apply x_b1); rotate_left 1; (decide)) | ((with_reducible first | apply f_q | apply f_r | apply f_n | apply g_r | apply g_n); rotate_left 1; exact a9_; exact ev_) | ((with_reducible first | apply d_p | apply d_n); rotate_left 1; exact ev_; rfl; exact a3_; exact a4_) | ((with_reducible apply d_cs); rotate_left 1; rfl; exact ev_; exact fv_; rfl; exact a5_; exact a4_) | ((with_reducible apply d_cv); rotate_left 1; rfl; exact ev_; exact fv_; exact a1_; exact a2_; exact tk_; exact a6_; exact a4_) | ((with_reducible apply d_gt); rotate_left 1; exact ev_) | ((with_reducible apply d_gf); rotate_left 1; exact a0_) | ((with_reducible apply d_gu); rotate_left 1; exact ev_) | (with_reducible first | apply d_zn | apply d_zb) | ((with_reducible first | apply d_g1 | apply d_g0); rotate_left 2; exact ev_) | exact pr_ | fail)
  all_goals (simp only [basic, *, Bool.true_or, Bool.or_true, Bool.false_or])
theorem f13 (t : ByteArray) : callP (Lv xp md) 13 [.str t] = some [.bool (basic t)] := by
  refine fn_v (F := F13) rfl ?_
  repeat' (first | intro _ | ((with_reducible first | apply s_p | apply s_n); rotate_left 1; exact ev_; rfl) | (with_reducible first | apply s_zn | apply s_zb | apply rn_seq | apply rn_blk | apply w_sn | apply w_sb | apply x_b0 | apply x_nx | apply r_nx | apply r_bk | apply n_nx | apply n_bk | apply q_nx | apply q_bk) | ((with_reducible apply s_gt); rotate_left 1; exact ev_) | ((with_reducible apply s_gf); rotate_left 1; exact a0_) | ((with_reducible apply s_gu); rotate_left 1; exact ev_) | ((with_reducible apply s_cs); rotate_left 1; rfl; exact ev_; exact fv_; rfl) | ((with_reducible apply s_cv); rotate_left 1; rfl; exact ev_; exact fv_; exact a1_; exact a2_; exact tk_) | ((with_reducible apply s_vs); rotate_left 1; exact ev_; rfl; exact ev_; exact fv_; rfl) | ((with_reducible first | apply s_g1 | apply s_g0); rotate_left 2; exact ev_) | ((with_reducible first | apply w_r | apply w_d); rotate_left 1; exact a7_; exact a8_) | ((with_reducible apply w_t); rotate_left 1; exact ev_) | ((with_reducible apply w_f); rotate_left 1; exact ev_) | ((with_reducible apply w_i); rotate_left 2; exact ev_) | ((with_reducible apply x_b1); rotate_left 1; (decide)) | ((with_reducible first | apply f_q | apply f_r | apply f_n | apply g_r | apply g_n); rotate_left 1; exact a9_; exact ev_) | ((with_reducible first | apply d_p | apply d_n); rotate_left 1; exact ev_; rfl; exact a3_; exact a4_) | ((with_reducible apply d_cs); rotate_left 1; rfl; exact ev_; exact fv_; rfl; exact a5_; exact a4_) | ((with_reducible apply d_cv); rotate_left 1; rfl; exact ev_; exact fv_; exact a1_; exact a2_; exact tk_; exact a6_; exact a4_) | ((with_reducible apply d_gt); rotate_left 1; exact ev_) | ((with_reducible apply d_gf); rotate_left 1; exact a0_) | ((with_reducible apply d_gu); rotate_left 1; exact ev_) | (with_reducible first | apply d_zn | apply d_zb) | ((with_reducible first | apply d_g1 | apply d_g0); rotate_left 2; exact ev_) | exact pr_ | fail)
  all_goals (simp only [basic, *, Bool.true_or, Bool.or_true, Bool.false_or])
theorem before_succ {α : Type} {l : List α} {j : Nat} {x : α} {p : α → Prop} (hx : l[j]? = some x) (hp : p x) (hb : ∀ i y, i < j → l[i]? = some y → p y) : ∀ i y, i < j + 1 → l[i]? = some y → p y := by
  intro i y hi hy
  by_cases he : i = j
  · subst he; rw [hx] at hy; obtain rfl := Option.some.inj hy; exact hp
  · exact hb i y (by omega) hy
theorem f39 (z : Bool) (l : List ByteArray) (t : ByteArray) (hl : l.length < 100000000000000) : callP (Lv xp md) 39 [ld z l, .str t] = some [.bool (has l t)] := by
  refine fn_v (F := F39) rfl ?_
  repeat' (first | intro _ | ((with_reducible first | apply s_p | apply s_n); rotate_left 1; exact ev_; rfl) | (with_reducible first | apply s_zn | apply s_zb | apply rn_seq | apply rn_blk | apply w_sn | apply w_sb | apply x_b0 | apply x_nx | apply r_nx | apply r_bk | apply n_nx | apply n_bk | apply q_nx | apply q_bk) | ((with_reducible apply s_gt); rotate_left 1; exact ev_) | ((with_reducible apply s_gf); rotate_left 1; exact a0_) | ((with_reducible apply s_gu); rotate_left 1; exact ev_) | ((with_reducible apply s_cs); rotate_left 1; rfl; exact ev_; exact fv_; rfl) | ((with_reducible apply s_cv); rotate_left 1; rfl; exact ev_; exact fv_; exact a1_; exact a2_; exact tk_) | ((with_reducible apply s_vs); rotate_left 1; exact ev_; rfl; exact ev_; exact fv_; rfl) | ((with_reducible first | apply s_g1 | apply s_g0); rotate_left 2; exact ev_) | ((with_reducible first | apply w_r | apply w_d); rotate_left 1; exact a7_; exact a8_) | ((with_reducible apply w_t); rotate_left 1; exact ev_) | ((with_reducible apply w_f); rotate_left 1; exact ev_) | ((with_reducible apply w_i); rotate_left 2; exact ev_) | ((with_reducible apply x_b1); rotate_left 1; (decide)) | ((with_reducible first | apply f_q | apply f_r | apply f_n | apply g_r | apply g_n); rotate_left 1; exact a9_; exact ev_) | ((with_reducible first | apply d_p | apply d_n); rotate_left 1; exact ev_; rfl; exact a3_; exact a4_) | ((with_reducible apply d_cs); rotate_left 1; rfl; exact ev_; exact fv_; rfl; exact a5_; exact a4_) | ((with_reducible apply d_cv); rotate_left 1; rfl; exact ev_; exact fv_; exact a1_; exact a2_; exact tk_; exact a6_; exact a4_) | ((with_reducible apply d_gt); rotate_left 1; exact ev_) | ((with_reducible apply d_gf); rotate_left 1; exact a0_) | ((with_reducible apply d_gu); rotate_left 1; exact ev_) | (with_reducible first | apply d_zn | apply d_zb) | ((with_reducible first | apply d_g1 | apply d_g0); rotate_left 2; exact ev_) | exact pr_ | fail)
  refine rn_loop l.length (fun j st => st.e 0 = ld z l ∧ st.e 1 = .str t ∧ st.e 5 = .int .i64 j ∧ ∀ i x, i < j → l[i]? = some x → x ≠ t) (j := 0) ⟨rfl, rfl, rfl, fun i x hi => by omega⟩ (Nat.zero_le _) ?_
  rintro j ⟨e, h, k⟩ hj ⟨i0, i1, i5, iv⟩
  dsimp only at i0 i1 i5
  rcases nextC hj with ⟨hlt, c1⟩ | ⟨rfl, c1⟩
  · obtain ⟨x, hx⟩ := at_lt hlt
    have w1 := inc64 j (by omega)
    repeat' (first | intro _ | ((with_reducible first | apply s_p | apply s_n); rotate_left 1; exact ev_; rfl) | (with_reducible first | apply s_zn | apply s_zb | apply rn_seq | apply rn_blk | apply w_sn | apply w_sb | apply x_b0 | apply x_nx | apply r_nx | apply r_bk | apply n_nx | apply n_bk | apply q_nx | apply q_bk) | ((with_reducible apply s_gt); rotate_left 1; exact ev_) | ((with_reducible apply s_gf); rotate_left 1; exact a0_) | ((with_reducible apply s_gu); rotate_left 1; exact ev_) | ((with_reducible apply s_cs); rotate_left 1; rfl; exact ev_; exact fv_; rfl) | ((with_reducible apply s_cv); rotate_left 1; rfl; exact ev_; exact fv_; exact a1_; exact a2_; exact tk_) | ((with_reducible apply s_vs); rotate_left 1; exact ev_; rfl; exact ev_; exact fv_; rfl) | ((with_reducible first | apply s_g1 | apply s_g0); rotate_left 2; exact ev_) | ((with_reducible first | apply w_r | apply w_d); rotate_left 1; exact a7_; exact a8_) | ((with_reducible apply w_t); rotate_left 1; exact ev_) | ((with_reducible apply w_f); rotate_left 1; exact ev_) | ((with_reducible apply w_i); rotate_left 2; exact ev_) | ((with_reducible apply x_b1); rotate_left 1; (decide)) | ((with_reducible first | apply f_q | apply f_r | apply f_n | apply g_r | apply g_n); rotate_left 1; exact a9_; exact ev_) | ((with_reducible first | apply d_p | apply d_n); rotate_left 1; exact ev_; rfl; exact a3_; exact a4_) | ((with_reducible apply d_cs); rotate_left 1; rfl; exact ev_; exact fv_; rfl; exact a5_; exact a4_) | ((with_reducible apply d_cv); rotate_left 1; rfl; exact ev_; exact fv_; exact a1_; exact a2_; exact tk_; exact a6_; exact a4_) | ((with_reducible apply d_gt); rotate_left 1; exact ev_) | ((with_reducible apply d_gf); rotate_left 1; exact a0_) | ((with_reducible apply d_gu); rotate_left 1; exact ev_) | (with_reducible first | apply d_zn | apply d_zb) | ((with_reducible first | apply d_g1 | apply d_g0); rotate_left 2; exact ev_) | exact pr_ | fail)
    · rename_i hh
      rw [has_yes (i := j) (by rw [hx, of_decide_eq_true hh])]
    · rename_i hh
      refine ⟨hlt, ?_, ?_, ?_, before_succ hx (of_decide_eq_false hh) iv⟩ <;> simp only [go_sem, ↓reduceIte, Nat.reduceEqDiff, Nat.reduceAdd, Nat.reduceMul, Nat.reduceSub, Nat.reduceLT, Nat.reduceLeDiff, Int.reduceEq, Int.reduceLT, Int.reduceLE, Int.reduceNeg, Int.reduceAdd, Int.reduceSub, reduceCtorEq, *]
  · repeat' (first | intro _ | ((with_reducible first | apply s_p | apply s_n); rotate_left 1; exact ev_; rfl) | (with_reducible first | apply s_zn | apply s_zb | apply rn_seq | apply rn_blk | apply w_sn | apply w_sb | apply x_b0 | apply x_nx | apply r_nx | apply r_bk | apply n_nx | apply n_bk | apply q_nx | apply q_bk) | ((with_reducible apply s_gt); rotate_left 1; exact ev_) | ((with_reducible apply s_gf); rotate_left 1; exact a0_) | ((with_reducible apply s_gu); rotate_left 1; exact ev_) | ((with_reducible apply s_cs); rotate_left 1; rfl; exact ev_; exact fv_; rfl) | ((with_reducible apply s_cv); rotate_left 1; rfl; exact ev_; exact fv_; exact a1_; exact a2_; exact tk_) | ((with_reducible apply s_vs); rotate_left 1; exact ev_; rfl; exact ev_; exact fv_; rfl) | ((with_reducible first | apply s_g1 | apply s_g0); rotate_left 2; exact ev_) | ((with_reducible first | apply w_r | apply w_d); rotate_left 1; exact a7_; exact a8_) | ((with_reducible apply w_t); rotate_left 1; exact ev_) | ((with_reducible apply w_f); rotate_left 1; exact ev_) | ((with_reducible apply w_i); rotate_left 2; exact ev_) | ((with_reducible apply x_b1); rotate_left 1; (decide)) | ((with_reducible first | apply f_q | apply f_r | apply f_n | apply g_r | apply g_n); rotate_left 1; exact a9_; exact ev_) | ((with_reducible first | apply d_p | apply d_n); rotate_left 1; exact ev_; rfl; exact a3_; exact a4_) | ((with_reducible apply d_cs); rotate_left 1; rfl; exact ev_; exact fv_; rfl; exact a5_; exact a4_) | ((with_reducible apply d_cv); rotate_left 1; rfl; exact ev_; exact fv_; exact a1_; exact a2_; exact tk_; exact a6_; exact a4_) | ((with_reducible apply d_gt); rotate_left 1; exact ev_) | ((with_reducible apply d_gf); rotate_left 1; exact a0_) | ((with_reducible apply d_gu); rotate_left 1; exact ev_) | (with_reducible first | apply d_zn | apply d_zb) | ((with_reducible first | apply d_g1 | apply d_g0); rotate_left 2; exact ev_) | exact pr_ | fail)
    rw [has_no (fun i hi hs => iv i _ hi hs rfl)]
def idx (l : List ByteArray) (t : ByteArray) : Int := match l.findIdx? fun s => decide (s = t) with
  | some i => (i : Int)
  | none => -1
theorem idx_at {l : List ByteArray} {t : ByteArray} {j : Nat} (hj : l[j]? = some t) (hb : ∀ i x, i < j → l[i]? = some x → x ≠ t) : idx l t = (j : Int) := by
  obtain ⟨hlt, he⟩ := List.getElem?_eq_some_iff.1 hj
  have : (l.findIdx? fun s => decide (s = t)) = some j := by
    rw [List.findIdx?_eq_some_iff_getElem]
    exact ⟨hlt, by simpa using he, fun i hi => by have := hb i _ hi (List.getElem?_eq_getElem (by omega)); simpa using this⟩
  simp only [idx, this]
theorem idx_no {l : List ByteArray} {t : ByteArray} (hb : ∀ i x, i < l.length → l[i]? = some x → x ≠ t) : idx l t = -1 := by
  have : (l.findIdx? fun s => decide (s = t)) = none := by
    rw [List.findIdx?_eq_none_iff]
    intro x hx
    obtain ⟨i, hi⟩ := List.getElem?_of_mem hx
    have := hb i x (List.getElem?_eq_some_iff.1 hi).1 hi
    simpa using this
  simp only [idx, this]
theorem idx_has (l : List ByteArray) (t : ByteArray) : decide (0 ≤ idx l t) = has l t := by
  unfold idx has
  cases h : l.findIdx? fun s => decide (s = t) with
  | none =>
    rw [List.findIdx?_eq_none_iff] at h
    simp only [show decide (0 ≤ (-1 : Int)) = false from rfl]
    exact (List.any_eq_false.2 fun x hx => by rw [h x hx]; simp).symm
  | some i =>
    rw [List.findIdx?_eq_some_iff_getElem] at h
    obtain ⟨hi, hp, _⟩ := h
    simp only [show decide (0 ≤ (i : Int)) = true by simp]
    exact (List.any_eq_true.2 ⟨_, List.getElem_mem hi, hp⟩).symm
theorem f58 (z : Bool) (l : List ByteArray) (t : ByteArray) (hl : l.length < 100000000000000) : callP (Lv xp md) 58 [ld z l, .str t] = some [.int .i64 (idx l t)] := by
  refine fn_v (F := F58) rfl ?_
  repeat' (first | intro _ | ((with_reducible first | apply s_p | apply s_n); rotate_left 1; exact ev_; rfl) | (with_reducible first | apply s_zn | apply s_zb | apply rn_seq | apply rn_blk | apply w_sn | apply w_sb | apply x_b0 | apply x_nx | apply r_nx | apply r_bk | apply n_nx | apply n_bk | apply q_nx | apply q_bk) | ((with_reducible apply s_gt); rotate_left 1; exact ev_) | ((with_reducible apply s_gf); rotate_left 1; exact a0_) | ((with_reducible apply s_gu); rotate_left 1; exact ev_) | ((with_reducible apply s_cs); rotate_left 1; rfl; exact ev_; exact fv_; rfl) | ((with_reducible apply s_cv); rotate_left 1; rfl; exact ev_; exact fv_; exact a1_; exact a2_; exact tk_) | ((with_reducible apply s_vs); rotate_left 1; exact ev_; rfl; exact ev_; exact fv_; rfl) | ((with_reducible first | apply s_g1 | apply s_g0); rotate_left 2; exact ev_) | ((with_reducible first | apply w_r | apply w_d); rotate_left 1; exact a7_; exact a8_) | ((with_reducible apply w_t); rotate_left 1; exact ev_) | ((with_reducible apply w_f); rotate_left 1; exact ev_) | ((with_reducible apply w_i); rotate_left 2; exact ev_) | ((with_reducible apply x_b1); rotate_left 1; (decide)) | ((with_reducible first | apply f_q | apply f_r | apply f_n | apply g_r | apply g_n); rotate_left 1; exact a9_; exact ev_) | ((with_reducible first | apply d_p | apply d_n); rotate_left 1; exact ev_; rfl; exact a3_; exact a4_) | ((with_reducible apply d_cs); rotate_left 1; rfl; exact ev_; exact fv_; rfl; exact a5_; exact a4_) | ((with_reducible apply d_cv); rotate_left 1; rfl; exact ev_; exact fv_; exact a1_; exact a2_; exact tk_; exact a6_; exact a4_) | ((with_reducible apply d_gt); rotate_left 1; exact ev_) | ((with_reducible apply d_gf); rotate_left 1; exact a0_) | ((with_reducible apply d_gu); rotate_left 1; exact ev_) | (with_reducible first | apply d_zn | apply d_zb) | ((with_reducible first | apply d_g1 | apply d_g0); rotate_left 2; exact ev_) | exact pr_ | fail)
  refine rn_loop l.length (fun j st => st.e 0 = ld z l ∧ st.e 1 = .str t ∧ st.e 7 = .int .i64 l.length ∧ st.e 8 = .int .i64 j ∧ ∀ i x, i < j → l[i]? = some x → x ≠ t) (j := 0) ⟨rfl, rfl, by simp only [go_sem, ↓reduceIte, Nat.reduceEqDiff, Nat.reduceAdd, Nat.reduceMul, Nat.reduceSub, Nat.reduceLT, Nat.reduceLeDiff, Int.reduceEq, Int.reduceLT, Int.reduceLE, Int.reduceNeg, Int.reduceAdd, Int.reduceSub, reduceCtorEq, *], rfl, fun i x hi => by omega⟩ (Nat.zero_le _) ?_
  rintro j ⟨e, h, k⟩ hj ⟨i0, i1, i7, i8, iv⟩
  dsimp only at i0 i1 i7 i8
  rcases nextC hj with ⟨hlt, c1⟩ | ⟨rfl, c1⟩
  · obtain ⟨x, hx⟩ := at_lt hlt
    have w1 := inc64 j (by omega)
    repeat' (first | intro _ | ((with_reducible first | apply s_p | apply s_n); rotate_left 1; exact ev_; rfl) | (with_reducible first | apply s_zn | apply s_zb | apply rn_seq | apply rn_blk | apply w_sn | apply w_sb | apply x_b0 | apply x_nx | apply r_nx | apply r_bk | apply n_nx | apply n_bk | apply q_nx | apply q_bk) | ((with_reducible apply s_gt); rotate_left 1; exact ev_) | ((with_reducible apply s_gf); rotate_left 1; exact a0_) | ((with_reducible apply s_gu); rotate_left 1; exact ev_) | ((with_reducible apply s_cs); rotate_left 1; rfl; exact ev_; exact fv_; rfl) | ((with_reducible apply s_cv); rotate_left 1; rfl; exact ev_; exact fv_; exact a1_; exact a2_; exact tk_) | ((with_reducible apply s_vs); rotate_left 1; exact ev_; rfl; exact ev_; exact fv_; rfl) | ((with_reducible first | apply s_g1 | apply s_g0); rotate_left 2; exact ev_) | ((with_reducible first | apply w_r | apply w_d); rotate_left 1; exact a7_; exact a8_) | ((with_reducible apply w_t); rotate_left 1; exact ev_) | ((with_reducible apply w_f); rotate_left 1; exact ev_) | ((with_reducible apply w_i); rotate_left 2; exact ev_) | ((with_reducible apply x_b1); rotate_left 1; (decide)) | ((with_reducible first | apply f_q | apply f_r | apply f_n | apply g_r | apply g_n); rotate_left 1; exact a9_; exact ev_) | ((with_reducible first | apply d_p | apply d_n); rotate_left 1; exact ev_; rfl; exact a3_; exact a4_) | ((with_reducible apply d_cs); rotate_left 1; rfl; exact ev_; exact fv_; rfl; exact a5_; exact a4_) | ((with_reducible apply d_cv); rotate_left 1; rfl; exact ev_; exact fv_; exact a1_; exact a2_; exact tk_; exact a6_; exact a4_) | ((with_reducible apply d_gt); rotate_left 1; exact ev_) | ((with_reducible apply d_gf); rotate_left 1; exact a0_) | ((with_reducible apply d_gu); rotate_left 1; exact ev_) | (with_reducible first | apply d_zn | apply d_zb) | ((with_reducible first | apply d_g1 | apply d_g0); rotate_left 2; exact ev_) | exact pr_ | fail)
    · rename_i hh
      obtain rfl := of_decide_eq_true hh
      rw [idx_at hx iv]
    · rename_i hh
      refine ⟨hlt, ?_, ?_, ?_, ?_, before_succ hx (fun he => of_decide_eq_false hh he.symm) iv⟩ <;> simp only [go_sem, ↓reduceIte, Nat.reduceEqDiff, Nat.reduceAdd, Nat.reduceMul, Nat.reduceSub, Nat.reduceLT, Nat.reduceLeDiff, Int.reduceEq, Int.reduceLT, Int.reduceLE, Int.reduceNeg, Int.reduceAdd, Int.reduceSub, reduceCtorEq, *]
  · repeat' (first | intro _ | ((with_reducible first | apply s_p | apply s_n); rotate_left 1; exact ev_; rfl) | (with_reducible first | apply s_zn | apply s_zb | apply rn_seq | apply rn_blk | apply w_sn | apply w_sb | apply x_b0 | apply x_nx | apply r_nx | apply r_bk | apply n_nx | apply n_bk | apply q_nx | apply q_bk) | ((with_reducible apply s_gt); rotate_left 1; exact ev_) | ((with_reducible apply s_gf); rotate_left 1; exact a0_) | ((with_reducible apply s_gu); rotate_left 1; exact ev_) | ((with_reducible apply s_cs); rotate_left 1; rfl; exact ev_; exact fv_; rfl) | ((with_reducible apply s_cv); rotate_left 1; rfl; exact ev_; exact fv_; exact a1_; exact a2_; exact tk_) | ((with_reducible apply s_vs); rotate_left 1; exact ev_; rfl; exact ev_; exact fv_; rfl) | ((with_reducible first | apply s_g1 | apply s_g0); rotate_left 2; exact ev_) | ((with_reducible first | apply w_r | apply w_d); rotate_left 1; exact a7_; exact a8_) | ((with_reducible apply w_t); rotate_left 1; exact ev_) | ((with_reducible apply w_f); rotate_left 1; exact ev_) | ((with_reducible apply w_i); rotate_left 2; exact ev_) | ((with_reducible apply x_b1); rotate_left 1; (decide)) | ((with_reducible first | apply f_q | apply f_r | apply f_n | apply g_r | apply g_n); rotate_left 1; exact a9_; exact ev_) | ((with_reducible first | apply d_p | apply d_n); rotate_left 1; exact ev_; rfl; exact a3_; exact a4_) | ((with_reducible apply d_cs); rotate_left 1; rfl; exact ev_; exact fv_; rfl; exact a5_; exact a4_) | ((with_reducible apply d_cv); rotate_left 1; rfl; exact ev_; exact fv_; exact a1_; exact a2_; exact tk_; exact a6_; exact a4_) | ((with_reducible apply d_gt); rotate_left 1; exact ev_) | ((with_reducible apply d_gf); rotate_left 1; exact a0_) | ((with_reducible apply d_gu); rotate_left 1; exact ev_) | (with_reducible first | apply d_zn | apply d_zb) | ((with_reducible first | apply d_g1 | apply d_g0); rotate_left 2; exact ev_) | exact pr_ | fail)
    rw [idx_no iv]
theorem f40 (z : Bool) (l : List ByteArray) (t : ByteArray) (hl : l.length < 100000000000000) : callP (Lv xp md) 40 [ld z l, .str t] = some [.bool (has l t)] := by
  refine fn_v (F := F40) rfl ?_
  have s58 := f58 z l t hl
  repeat' (first | intro _ | ((with_reducible first | apply s_p | apply s_n); rotate_left 1; exact ev_; rfl) | (with_reducible first | apply s_zn | apply s_zb | apply rn_seq | apply rn_blk | apply w_sn | apply w_sb | apply x_b0 | apply x_nx | apply r_nx | apply r_bk | apply n_nx | apply n_bk | apply q_nx | apply q_bk) | ((with_reducible apply s_gt); rotate_left 1; exact ev_) | ((with_reducible apply s_gf); rotate_left 1; exact a0_) | ((with_reducible apply s_gu); rotate_left 1; exact ev_) | ((with_reducible apply s_cs); rotate_left 1; rfl; exact ev_; exact fv_; rfl) | ((with_reducible apply s_cv); rotate_left 1; rfl; exact ev_; exact fv_; exact a1_; exact a2_; exact tk_) | ((with_reducible apply s_vs); rotate_left 1; exact ev_; rfl; exact ev_; exact fv_; rfl) | ((with_reducible first | apply s_g1 | apply s_g0); rotate_left 2; exact ev_) | ((with_reducible first | apply w_r | apply w_d); rotate_left 1; exact a7_; exact a8_) | ((with_reducible apply w_t); rotate_left 1; exact ev_) | ((with_reducible apply w_f); rotate_left 1; exact ev_) | ((with_reducible apply w_i); rotate_left 2; exact ev_) | ((with_reducible apply x_b1); rotate_left 1; (decide)) | ((with_reducible first | apply f_q | apply f_r | apply f_n | apply g_r | apply g_n); rotate_left 1; exact a9_; exact ev_) | ((with_reducible first | apply d_p | apply d_n); rotate_left 1; exact ev_; rfl; exact a3_; exact a4_) | ((with_reducible apply d_cs); rotate_left 1; rfl; exact ev_; exact fv_; rfl; exact a5_; exact a4_) | ((with_reducible apply d_cv); rotate_left 1; rfl; exact ev_; exact fv_; exact a1_; exact a2_; exact tk_; exact a6_; exact a4_) | ((with_reducible apply d_gt); rotate_left 1; exact ev_) | ((with_reducible apply d_gf); rotate_left 1; exact a0_) | ((with_reducible apply d_gu); rotate_left 1; exact ev_) | (with_reducible first | apply d_zn | apply d_zb) | ((with_reducible first | apply d_g1 | apply d_g0); rotate_left 2; exact ev_) | exact pr_ | fail)
  rw [idx_has]
theorem f57 (d : Dc) : callP (Lv xp md) 57 [.agg d.cells] = some [.bool (obj d)] := by
  refine fn_v (F := F57) rfl ?_
  repeat' (first | intro _ | ((with_reducible first | apply s_p | apply s_n); rotate_left 1; exact ev_; rfl) | (with_reducible first | apply s_zn | apply s_zb | apply rn_seq | apply rn_blk | apply w_sn | apply w_sb | apply x_b0 | apply x_nx | apply r_nx | apply r_bk | apply n_nx | apply n_bk | apply q_nx | apply q_bk) | ((with_reducible apply s_gt); rotate_left 1; exact ev_) | ((with_reducible apply s_gf); rotate_left 1; exact a0_) | ((with_reducible apply s_gu); rotate_left 1; exact ev_) | ((with_reducible apply s_cs); rotate_left 1; rfl; exact ev_; exact fv_; rfl) | ((with_reducible apply s_cv); rotate_left 1; rfl; exact ev_; exact fv_; exact a1_; exact a2_; exact tk_) | ((with_reducible apply s_vs); rotate_left 1; exact ev_; rfl; exact ev_; exact fv_; rfl) | ((with_reducible first | apply s_g1 | apply s_g0); rotate_left 2; exact ev_) | ((with_reducible first | apply w_r | apply w_d); rotate_left 1; exact a7_; exact a8_) | ((with_reducible apply w_t); rotate_left 1; exact ev_) | ((with_reducible apply w_f); rotate_left 1; exact ev_) | ((with_reducible apply w_i); rotate_left 2; exact ev_) | ((with_reducible apply x_b1); rotate_left 1; (decide)) | ((with_reducible first | apply f_q | apply f_r | apply f_n | apply g_r | apply g_n); rotate_left 1; exact a9_; exact ev_) | ((with_reducible first | apply d_p | apply d_n); rotate_left 1; exact ev_; rfl; exact a3_; exact a4_) | ((with_reducible apply d_cs); rotate_left 1; rfl; exact ev_; exact fv_; rfl; exact a5_; exact a4_) | ((with_reducible apply d_cv); rotate_left 1; rfl; exact ev_; exact fv_; exact a1_; exact a2_; exact tk_; exact a6_; exact a4_) | ((with_reducible apply d_gt); rotate_left 1; exact ev_) | ((with_reducible apply d_gf); rotate_left 1; exact a0_) | ((with_reducible apply d_gu); rotate_left 1; exact ev_) | (with_reducible first | apply d_zn | apply d_zb) | ((with_reducible first | apply d_g1 | apply d_g0); rotate_left 2; exact ev_) | exact pr_ | fail)
  all_goals simp only [obj, *, Bool.true_or, Bool.or_true, Bool.false_or]
theorem f56 (l : List Dc) (t : ByteArray) (hl : l.length < 100000000000000) : callP (Lv xp md) 56 [.isl (dl l), .str t] = some [.agg (orz (find l t)).cells, .bool (find l t).isSome] := by
  refine fn_v (F := F56) rfl ?_
  repeat' (first | intro _ | ((with_reducible first | apply s_p | apply s_n); rotate_left 1; exact ev_; rfl) | (with_reducible first | apply s_zn | apply s_zb | apply rn_seq | apply rn_blk | apply w_sn | apply w_sb | apply x_b0 | apply x_nx | apply r_nx | apply r_bk | apply n_nx | apply n_bk | apply q_nx | apply q_bk) | ((with_reducible apply s_gt); rotate_left 1; exact ev_) | ((with_reducible apply s_gf); rotate_left 1; exact a0_) | ((with_reducible apply s_gu); rotate_left 1; exact ev_) | ((with_reducible apply s_cs); rotate_left 1; rfl; exact ev_; exact fv_; rfl) | ((with_reducible apply s_cv); rotate_left 1; rfl; exact ev_; exact fv_; exact a1_; exact a2_; exact tk_) | ((with_reducible apply s_vs); rotate_left 1; exact ev_; rfl; exact ev_; exact fv_; rfl) | ((with_reducible first | apply s_g1 | apply s_g0); rotate_left 2; exact ev_) | ((with_reducible first | apply w_r | apply w_d); rotate_left 1; exact a7_; exact a8_) | ((with_reducible apply w_t); rotate_left 1; exact ev_) | ((with_reducible apply w_f); rotate_left 1; exact ev_) | ((with_reducible apply w_i); rotate_left 2; exact ev_) | ((with_reducible apply x_b1); rotate_left 1; (decide)) | ((with_reducible first | apply f_q | apply f_r | apply f_n | apply g_r | apply g_n); rotate_left 1; exact a9_; exact ev_) | ((with_reducible first | apply d_p | apply d_n); rotate_left 1; exact ev_; rfl; exact a3_; exact a4_) | ((with_reducible apply d_cs); rotate_left 1; rfl; exact ev_; exact fv_; rfl; exact a5_; exact a4_) | ((with_reducible apply d_cv); rotate_left 1; rfl; exact ev_; exact fv_; exact a1_; exact a2_; exact tk_; exact a6_; exact a4_) | ((with_reducible apply d_gt); rotate_left 1; exact ev_) | ((with_reducible apply d_gf); rotate_left 1; exact a0_) | ((with_reducible apply d_gu); rotate_left 1; exact ev_) | (with_reducible first | apply d_zn | apply d_zb) | ((with_reducible first | apply d_g1 | apply d_g0); rotate_left 2; exact ev_) | exact pr_ | fail)
  refine rn_loop l.length (fun j st => st.e 1 = .str t ∧ st.e 4 = .ptr 0 0 0 ∧ st.e 8 = .isl (dl l) ∧ st.e 9 = .int .i64 l.length ∧ st.e 10 = .int .i64 j ∧ (∀ i x, i < j → l[i]? = some x → x.name ≠ t) ∧ st.h 0 = .var zd.cells true ∧ 16 ≤ st.k) (j := 0) ⟨rfl, rfl, rfl, by simp only [go_sem, ↓reduceIte, Nat.reduceEqDiff, Nat.reduceAdd, Nat.reduceMul, Nat.reduceSub, Nat.reduceLT, Nat.reduceLeDiff, Int.reduceEq, Int.reduceLT, Int.reduceLE, Int.reduceNeg, Int.reduceAdd, Int.reduceSub, reduceCtorEq, *], rfl, fun i x hi => by omega, rfl, by simp⟩ (Nat.zero_le _) ?_
  rintro j ⟨e, h, k⟩ hj ⟨i1, i4, i8, i9, i10, iv, ih, ik⟩
  dsimp only at i1 i4 i8 i9 i10 ih ik
  rcases nextC hj with ⟨hlt, c1⟩ | ⟨rfl, c1⟩
  · obtain ⟨x, hx⟩ := at_lt hlt
    have w1 := inc64 j (by omega)
    have n1 : ∀ c, c < 16 → (c = k) = False := fun c hc => by simp; omega
    repeat' (first | intro _ | ((with_reducible first | apply s_p | apply s_n); rotate_left 1; exact ev_; rfl) | (with_reducible first | apply s_zn | apply s_zb | apply rn_seq | apply rn_blk | apply w_sn | apply w_sb | apply x_b0 | apply x_nx | apply r_nx | apply r_bk | apply n_nx | apply n_bk | apply q_nx | apply q_bk) | ((with_reducible apply s_gt); rotate_left 1; exact ev_) | ((with_reducible apply s_gf); rotate_left 1; exact a0_) | ((with_reducible apply s_gu); rotate_left 1; exact ev_) | ((with_reducible apply s_cs); rotate_left 1; rfl; exact ev_; exact fv_; rfl) | ((with_reducible apply s_cv); rotate_left 1; rfl; exact ev_; exact fv_; exact a1_; exact a2_; exact tk_) | ((with_reducible apply s_vs); rotate_left 1; exact ev_; rfl; exact ev_; exact fv_; rfl) | ((with_reducible first | apply s_g1 | apply s_g0); rotate_left 2; exact ev_) | ((with_reducible first | apply w_r | apply w_d); rotate_left 1; exact a7_; exact a8_) | ((with_reducible apply w_t); rotate_left 1; exact ev_) | ((with_reducible apply w_f); rotate_left 1; exact ev_) | ((with_reducible apply w_i); rotate_left 2; exact ev_) | ((with_reducible apply x_b1); rotate_left 1; (decide)) | ((with_reducible first | apply f_q | apply f_r | apply f_n | apply g_r | apply g_n); rotate_left 1; exact a9_; exact ev_) | ((with_reducible first | apply d_p | apply d_n); rotate_left 1; exact ev_; rfl; exact a3_; exact a4_) | ((with_reducible apply d_cs); rotate_left 1; rfl; exact ev_; exact fv_; rfl; exact a5_; exact a4_) | ((with_reducible apply d_cv); rotate_left 1; rfl; exact ev_; exact fv_; exact a1_; exact a2_; exact tk_; exact a6_; exact a4_) | ((with_reducible apply d_gt); rotate_left 1; exact ev_) | ((with_reducible apply d_gf); rotate_left 1; exact a0_) | ((with_reducible apply d_gu); rotate_left 1; exact ev_) | (with_reducible first | apply d_zn | apply d_zb) | ((with_reducible first | apply d_g1 | apply d_g0); rotate_left 2; exact ev_) | exact pr_ | fail)
    · rename_i hh
      rw [find_at hx (of_decide_eq_true hh) iv]
      simp only [go_sem, ↓reduceIte, Nat.reduceEqDiff, Nat.reduceAdd, Nat.reduceMul, Nat.reduceSub, Nat.reduceLT, Nat.reduceLeDiff, Int.reduceEq, Int.reduceLT, Int.reduceLE, Int.reduceNeg, Int.reduceAdd, Int.reduceSub, reduceCtorEq, *]
    · rename_i hh
      refine ⟨hlt, ?_, ?_, ?_, ?_, ?_, before_succ hx (of_decide_eq_false hh) iv, ?_, ?_⟩
      all_goals simp only [go_sem, ↓reduceIte, Nat.reduceEqDiff, Nat.reduceAdd, Nat.reduceMul, Nat.reduceSub, Nat.reduceLT, Nat.reduceLeDiff, Int.reduceEq, Int.reduceLT, Int.reduceLE, Int.reduceNeg, Int.reduceAdd, Int.reduceSub, reduceCtorEq, *]
      all_goals omega
  · repeat' (first | intro _ | ((with_reducible first | apply s_p | apply s_n); rotate_left 1; exact ev_; rfl) | (with_reducible first | apply s_zn | apply s_zb | apply rn_seq | apply rn_blk | apply w_sn | apply w_sb | apply x_b0 | apply x_nx | apply r_nx | apply r_bk | apply n_nx | apply n_bk | apply q_nx | apply q_bk) | ((with_reducible apply s_gt); rotate_left 1; exact ev_) | ((with_reducible apply s_gf); rotate_left 1; exact a0_) | ((with_reducible apply s_gu); rotate_left 1; exact ev_) | ((with_reducible apply s_cs); rotate_left 1; rfl; exact ev_; exact fv_; rfl) | ((with_reducible apply s_cv); rotate_left 1; rfl; exact ev_; exact fv_; exact a1_; exact a2_; exact tk_) | ((with_reducible apply s_vs); rotate_left 1; exact ev_; rfl; exact ev_; exact fv_; rfl) | ((with_reducible first | apply s_g1 | apply s_g0); rotate_left 2; exact ev_) | ((with_reducible first | apply w_r | apply w_d); rotate_left 1; exact a7_; exact a8_) | ((with_reducible apply w_t); rotate_left 1; exact ev_) | ((with_reducible apply w_f); rotate_left 1; exact ev_) | ((with_reducible apply w_i); rotate_left 2; exact ev_) | ((with_reducible apply x_b1); rotate_left 1; (decide)) | ((with_reducible first | apply f_q | apply f_r | apply f_n | apply g_r | apply g_n); rotate_left 1; exact a9_; exact ev_) | ((with_reducible first | apply d_p | apply d_n); rotate_left 1; exact ev_; rfl; exact a3_; exact a4_) | ((with_reducible apply d_cs); rotate_left 1; rfl; exact ev_; exact fv_; rfl; exact a5_; exact a4_) | ((with_reducible apply d_cv); rotate_left 1; rfl; exact ev_; exact fv_; exact a1_; exact a2_; exact tk_; exact a6_; exact a4_) | ((with_reducible apply d_gt); rotate_left 1; exact ev_) | ((with_reducible apply d_gf); rotate_left 1; exact a0_) | ((with_reducible apply d_gu); rotate_left 1; exact ev_) | (with_reducible first | apply d_zn | apply d_zb) | ((with_reducible first | apply d_g1 | apply d_g0); rotate_left 2; exact ev_) | exact pr_ | fail)
    rw [find_no iv]
    simp only [go_sem, ↓reduceIte, Nat.reduceEqDiff, Nat.reduceAdd, Nat.reduceMul, Nat.reduceSub, Nat.reduceLT, Nat.reduceLeDiff, Int.reduceEq, Int.reduceLT, Int.reduceLE, Int.reduceNeg, Int.reduceAdd, Int.reduceSub, reduceCtorEq]
end Go.Proofs.Ytoemdhcnfmkkaaa.AE
