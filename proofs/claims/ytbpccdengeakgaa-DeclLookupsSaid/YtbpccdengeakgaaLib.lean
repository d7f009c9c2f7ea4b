/-
  decl: the declarations in plain words, and small functions.
-/
import Derived.Test.YtbpccdengeakgaaGen
set_option linter.unusedVariables false
set_option linter.unusedSimpArgs false
set_option maxHeartbeats 4000000
set_option maxRecDepth 100000
namespace Go.Proofs.Ytbpccdengeakgaa.AE
open Go
/-- A list of strings. -/
def sl (l : List ByteArray) : List (List D) := l.map fun s => [.str s]
theorem sl_at (l : List ByteArray) (j : Nat) : (sl l)[j]? = l[j]?.map fun s => [.str s] := by simp [sl]
theorem sl_len (l : List ByteArray) : (sl l).length = l.length := by simp [sl]
/-- The same, nil where z says so and it is empty. -/
def ld (z : Bool) (l : List ByteArray) : D := if z && l.isEmpty then .nls else .isl (sl l)
theorem ld_f (l : List ByteArray) : ld false l = .isl (sl l) := rfl
theorem ld_t : ld true [] = .nls := rfl
theorem ld_c (z : Bool) (x : ByteArray) (l : List ByteArray) : ld z (x :: l) = .isl (sl (x :: l)) := by cases z <;> rfl
theorem ld_cases (z : Bool) (l : List ByteArray) : ld z l = .isl (sl l) ∨ (ld z l = .nls ∧ l = []) := by
  cases z with
  | false => exact .inl rfl
  | true => cases l with
    | nil => exact .inr ⟨rfl, rfl⟩
    | cons => exact .inl rfl
theorem ld_elems (h : Hp) (z : Bool) (l : List ByteArray) : elems h (ld z l) = some (sl l) := by
  rcases ld_cases z l with e | ⟨e, rfl⟩ <;> rw [e] <;> rfl
theorem ld_frz (n : Nat) (h : Hp) (z : Bool) (l : List ByteArray) : frz (n + 1) h (ld z l) = some (ld z l, h) := by
  rcases ld_cases z l with e | ⟨e, rfl⟩ <;> rw [e] <;> rfl
theorem ld_ret (h : Hp) (z : Bool) (l : List ByteArray) (r : List D) : retL h (ld z l :: r) = (retL h r).bind fun q => some (ld z l :: q) := by
  rcases ld_cases z l with e | ⟨e, rfl⟩ <;> rw [e] <;> rfl
theorem ld_here (n : Nat) (h : Hp) (z : Bool) (l : List ByteArray) : nmD n h (ld z l) = [] := by
  rcases ld_cases z l with e | ⟨e, rfl⟩ <;> rw [e]
  · exact nmD_isl n h _
  · exact nmD_nls n h
theorem ld_cells (z : Bool) (l : List ByteArray) : D.cells (ld z l) = some [ld z l] := by
  rcases ld_cases z l with e | ⟨e, rfl⟩ <;> rw [e] <;> rfl
theorem ld_leaf (z : Bool) (l : List ByteArray) : D.leaf (ld z l) = true := by
  rcases ld_cases z l with e | ⟨e, rfl⟩ <;> rw [e] <;> rfl
theorem ld_im (z : Bool) (l : List ByteArray) : D.im (ld z l) = true := by
  rcases ld_cases z l with e | ⟨e, rfl⟩ <;> rw [e] <;> rfl
theorem ld_nm (z : Bool) (l : List ByteArray) : D.nm (ld z l) = [] := by
  rcases ld_cases z l with e | ⟨e, rfl⟩ <;> rw [e] <;> rfl
theorem ld_sc (z : Bool) (l : List ByteArray) : D.scalar (ld z l) = false := by
  rcases ld_cases z l with e | ⟨e, rfl⟩ <;> rw [e] <;> rfl
theorem ld_tk (h : Hp) (k : Nat) (z : Bool) (l : List ByteArray) (r : List D) : takeIn h k (ld z l :: r) = (ld z l :: (takeIn h (k + 1) r).1, (takeIn h (k + 1) r).2) := by
  rcases ld_cases z l with e | ⟨e, rfl⟩ <;> rw [e] <;> rfl
theorem ld_ia (h : Hp) (z : Bool) (l : List ByteArray) (j : Nat) : iaD h 1 j (ld z l) = (l[j]?).bind fun x => some (.ipt [.str x] 0, h) := by
  rcases ld_cases z l with e | ⟨e, rfl⟩
  · rw [e]; simp only [iaD, sl_at]; cases l[j]? <;> rfl
  · rw [e]; rfl
/-- A declaration; pz, sz: its lists are nil. -/
structure Dc where
  id : Int
  kind : Int
  name : ByteArray
  parent : Int
  type : ByteArray
  pz : Bool
  params : List ByteArray
  sz : Bool
  supers : List ByteArray
  super : Bool
  doc : Int
  at_ : Int
  end_ : Int
def Dc.cells (d : Dc) : List D := [.int .i64 d.id, .int .i64 d.kind, .str d.name, .int .i64 d.parent, .str d.type, ld d.pz d.params, ld d.sz d.supers, .bool d.super, .int .i64 d.doc, .int .i64 d.at_, .int .i64 d.end_]
/-- The declaration of no words. -/
def zd : Dc := ⟨0, 0, ByteArray.mk #[], 0, ByteArray.mk #[], true, [], true, [], false, 0, 0, 0⟩
def dl (l : List Dc) : List (List D) := l.map Dc.cells
theorem dl_at (l : List Dc) (j : Nat) : (dl l)[j]? = l[j]?.map Dc.cells := by simp [dl]
theorem dl_len (l : List Dc) : (dl l).length = l.length := by simp [dl]
theorem dc_cells (d : Dc) : d.cells = [.int .i64 d.id, .int .i64 d.kind, .str d.name, .int .i64 d.parent, .str d.type, ld d.pz d.params, ld d.sz d.supers, .bool d.super, .int .i64 d.doc, .int .i64 d.at_, .int .i64 d.end_] := rfl
theorem zd_eq : (zd.id = 0 ∧ zd.kind = 0 ∧ zd.name = ByteArray.mk #[] ∧ zd.parent = 0) ∧ (zd.type = ByteArray.mk #[] ∧ zd.pz = true ∧ zd.params = [] ∧ zd.sz = true) ∧ zd.supers = [] ∧ zd.super = false ∧ zd.doc = 0 ∧ zd.at_ = 0 ∧ zd.end_ = 0 := ⟨⟨rfl, rfl, rfl, rfl⟩, ⟨rfl, rfl, rfl, rfl⟩, rfl, rfl, rfl, rfl, rfl⟩
def orz : Option Dc → Dc
  | some d => d
  | none => zd
theorem orz_some (d : Dc) : orz (some d) = d := rfl
theorem orz_none : orz none = zd := rfl
attribute [go_sem] sl_at sl_len ld_t ld_elems ld_frz ld_ret ld_cells ld_leaf ld_im ld_nm ld_here ld_ia ld_sc ld_tk dl_at dl_len dc_cells zd_eq orz_some orz_none Option.isSome_some Option.isSome_none
/-- A list of declarations, nil where z says so and it is empty. -/
def dz (z : Bool) (l : List Dc) : D := if z && l.isEmpty then .nls else .isl (dl l)
theorem dz_f (l : List Dc) : dz false l = .isl (dl l) := rfl
theorem dz_cases (z : Bool) (l : List Dc) : dz z l = .isl (dl l) ∨ (dz z l = .nls ∧ l = []) := by
  cases z with
  | false => exact .inl rfl
  | true => cases l with
    | nil => exact .inr ⟨rfl, rfl⟩
    | cons => exact .inl rfl
theorem dz_elems (h : Hp) (z : Bool) (l : List Dc) : elems h (dz z l) = some (dl l) := by
  rcases dz_cases z l with e | ⟨e, rfl⟩ <;> rw [e] <;> rfl
theorem dz_frz (n : Nat) (h : Hp) (z : Bool) (l : List Dc) : frz (n + 1) h (dz z l) = some (dz z l, h) := by
  rcases dz_cases z l with e | ⟨e, rfl⟩ <;> rw [e] <;> rfl
theorem dz_nm (n : Nat) (h : Hp) (z : Bool) (l : List Dc) : nmD n h (dz z l) = [] := by
  rcases dz_cases z l with e | ⟨e, rfl⟩ <;> rw [e]
  · exact nmD_isl n h _
  · exact nmD_nls n h
theorem dz_ia (h : Hp) (z : Bool) (l : List Dc) (j : Nat) : iaD h 11 j (dz z l) = (l[j]?).bind fun x => some (.ipt x.cells 0, h) := by
  rcases dz_cases z l with e | ⟨e, rfl⟩
  · rw [e]; simp only [iaD, dl_at]; cases l[j]? <;> rfl
  · rw [e]; rfl
attribute [go_sem] dz_elems dz_frz dz_nm dz_ia
/-- Equal, nil and empty lists being the same. -/
def Dc.same (a b : Dc) : Bool := decide (a.id = b.id) && decide (a.kind = b.kind) && decide (a.name = b.name) && decide (a.parent = b.parent) && decide (a.type = b.type) && decide (a.params = b.params) && decide (a.supers = b.supers) && decide (a.super = b.super) && decide (a.doc = b.doc) && decide (a.at_ = b.at_) && decide (a.end_ = b.end_)
theorem Dc.same_refl (a : Dc) : a.same a = true := by simp [Dc.same]
theorem eqTo {l m : List ByteArray} {j : Nat} (hl : l.length = m.length) (hb : ∀ i x y, i < j → l[i]? = some x → m[i]? = some y → x = y) (hj : j = l.length) : decide (l = m) = true := by
  rw [decide_eq_true_eq]
  refine List.ext_getElem hl fun i h1 h2 => ?_
  exact hb i _ _ (by omega) (List.getElem?_eq_getElem h1) (List.getElem?_eq_getElem h2)
theorem f30 (za zb : Bool) (a b : List ByteArray) (ha : a.length < 100000000000000) (hb : b.length < 100000000000000) : callP (Lv xp md) 30 [ld za a, ld zb b] = some [.bool (decide (a = b))] := by
  refine fn_v (F := F30) rfl ?_
  cases hlen : decide ((a.length : Int) = (b.length : Int)) with
  | false =>
    have hne : decide (a = b) = false := by
      rw [decide_eq_false_iff_not] at hlen ⊢
      rintro rfl; exact hlen rfl
    rw [hne]
    repeat' (first | intro _ | ((with_reducible first | apply s_p | apply s_n); rotate_left 1; exact ev_; rfl) | (with_reducible first | apply s_zn | apply s_zb | apply rn_seq | apply rn_blk | apply w_sn | apply w_sb | apply x_b0 | apply x_nx | apply r_nx | apply r_bk | apply n_nx | apply n_bk | apply q_nx | apply q_bk) | ((with_reducible apply s_gt); rotate_left 1; exact ev_) | ((with_reducible apply s_gf); rotate_left 1; exact a0_) | ((with_reducible apply s_gu); rotate_left 1; exact ev_) | ((with_reducible apply s_cs); rotate_left 1; rfl; exact ev_; exact fv_; rfl) | ((with_reducible apply s_cv); rotate_left 1; rfl; exact ev_; exact fv_; exact a1_; exact a2_; exact tk_) | ((with_reducible apply s_vs); rotate_left 1; exact ev_; rfl; exact ev_; exact fv_; rfl) | ((with_reducible first | apply s_g1 | apply s_g0); rotate_left 2; exact ev_) | ((with_reducible first | apply w_r | apply w_d); rotate_left 1; exact a9_; exact a10_) | ((with_reducible apply w_t); rotate_left 1; exact ev_) | ((with_reducible apply w_f); rotate_left 1; exact ev_) | ((with_reducible apply w_i); rotate_left 2; exact ev_) | ((with_reducible apply x_b1); rotate_left 1; (decide)) | ((with_reducible first | apply f_q | apply f_r | apply f_n | apply g_r | apply g_n); rotate_left 1; exact a11_; exact ev_) | ((with_reducible first | apply d_p | apply d_n); rotate_left 1; exact ev_; rfl; exact a3_; exact a4_) | ((with_reducible apply d_cs); rotate_left 1; rfl; exact ev_; exact fv_; rfl; exact a5_; exact a6_; exact a7_; exact a8_) | ((with_reducible apply d_cv); rotate_left 1; rfl; exact ev_; exact fv_; exact a1_; exact a2_; exact tk_; rfl; exact a6_; exact a7_) | ((with_reducible apply d_gt); rotate_left 1; exact ev_) | ((with_reducible apply d_gf); rotate_left 1; exact a0_) | ((with_reducible apply d_gu); rotate_left 1; exact ev_) | (with_reducible first | apply d_zn | apply d_zb) | ((with_reducible first | apply d_g1 | apply d_g0); rotate_left 2; exact ev_) | exact pr_ | fail)
  | true =>
    repeat' (first | intro _ | ((with_reducible first | apply s_p | apply s_n); rotate_left 1; exact ev_; rfl) | (with_reducible first | apply s_zn | apply s_zb | apply rn_seq | apply rn_blk | apply w_sn | apply w_sb | apply x_b0 | apply x_nx | apply r_nx | apply r_bk | apply n_nx | apply n_bk | apply q_nx | apply q_bk) | ((with_reducible apply s_gt); rotate_left 1; exact ev_) | ((with_reducible apply s_gf); rotate_left 1; exact a0_) | ((with_reducible apply s_gu); rotate_left 1; exact ev_) | ((with_reducible apply s_cs); rotate_left 1; rfl; exact ev_; exact fv_; rfl) | ((with_reducible apply s_cv); rotate_left 1; rfl; exact ev_; exact fv_; exact a1_; exact a2_; exact tk_) | ((with_reducible apply s_vs); rotate_left 1; exact ev_; rfl; exact ev_; exact fv_; rfl) | ((with_reducible first | apply s_g1 | apply s_g0); rotate_left 2; exact ev_) | ((with_reducible first | apply w_r | apply w_d); rotate_left 1; exact a9_; exact a10_) | ((with_reducible apply w_t); rotate_left 1; exact ev_) | ((with_reducible apply w_f); rotate_left 1; exact ev_) | ((with_reducible apply w_i); rotate_left 2; exact ev_) | ((with_reducible apply x_b1); rotate_left 1; (decide)) | ((with_reducible first | apply f_q | apply f_r | apply f_n | apply g_r | apply g_n); rotate_left 1; exact a11_; exact ev_) | ((with_reducible first | apply d_p | apply d_n); rotate_left 1; exact ev_; rfl; exact a3_; exact a4_) | ((with_reducible apply d_cs); rotate_left 1; rfl; exact ev_; exact fv_; rfl; exact a5_; exact a6_; exact a7_; exact a8_) | ((with_reducible apply d_cv); rotate_left 1; rfl; exact ev_; exact fv_; exact a1_; exact a2_; exact tk_; rfl; exact a6_; exact a7_) | ((with_reducible apply d_gt); rotate_left 1; exact ev_) | ((with_reducible apply d_gf); rotate_left 1; exact a0_) | ((with_reducible apply d_gu); rotate_left 1; exact ev_) | (with_reducible first | apply d_zn | apply d_zb) | ((with_reducible first | apply d_g1 | apply d_g0); rotate_left 2; exact ev_) | exact pr_ | fail)
    have hl : a.length = b.length := by have := of_decide_eq_true hlen; omega
    refine rn_loop a.length (fun j st => st.e 0 = ld za a ∧ st.e 1 = ld zb b ∧ st.e 5 = .int .i64 j ∧ ∀ i x y, i < j → a[i]? = some x → b[i]? = some y → x = y) (j := 0) ⟨rfl, rfl, rfl, fun i x y hi => by omega⟩ (Nat.zero_le _) ?_
    rintro j ⟨e, h, k⟩ hj ⟨i0, i1, i5, iv⟩
    dsimp only at i0 i1 i5
    rcases nextC hj with ⟨hlt, c1⟩ | ⟨rfl, c1⟩
    · obtain ⟨x, hx⟩ := at_lt hlt
      obtain ⟨y, hy⟩ := at_lt (hl ▸ hlt)
      have w1 := inc64 j (by omega)
      clear hlen hl
      repeat' (first | intro _ | ((with_reducible first | apply s_p | apply s_n); rotate_left 1; exact ev_; rfl) | (with_reducible first | apply s_zn | apply s_zb | apply rn_seq | apply rn_blk | apply w_sn | apply w_sb | apply x_b0 | apply x_nx | apply r_nx | apply r_bk | apply n_nx | apply n_bk | apply q_nx | apply q_bk) | ((with_reducible apply s_gt); rotate_left 1; exact ev_) | ((with_reducible apply s_gf); rotate_left 1; exact a0_) | ((with_reducible apply s_gu); rotate_left 1; exact ev_) | ((with_reducible apply s_cs); rotate_left 1; rfl; exact ev_; exact fv_; rfl) | ((with_reducible apply s_cv); rotate_left 1; rfl; exact ev_; exact fv_; exact a1_; exact a2_; exact tk_) | ((with_reducible apply s_vs); rotate_left 1; exact ev_; rfl; exact ev_; exact fv_; rfl) | ((with_reducible first | apply s_g1 | apply s_g0); rotate_left 2; exact ev_) | ((with_reducible first | apply w_r | apply w_d); rotate_left 1; exact a9_; exact a10_) | ((with_reducible apply w_t); rotate_left 1; exact ev_) | ((with_reducible apply w_f); rotate_left 1; exact ev_) | ((with_reducible apply w_i); rotate_left 2; exact ev_) | ((with_reducible apply x_b1); rotate_left 1; (decide)) | ((with_reducible first | apply f_q | apply f_r | apply f_n | apply g_r | apply g_n); rotate_left 1; exact a11_; exact ev_) | ((with_reducible first | apply d_p | apply d_n); rotate_left 1; exact ev_; rfl; exact a3_; exact a4_) | ((with_reducible apply d_cs); rotate_left 1; rfl; exact ev_; exact fv_; rfl; exact a5_; exact a6_; exact a7_; exact a8_) | ((with_reducible apply d_cv); rotate_left 1; rfl; exact ev_; exact fv_; exact a1_; exact a2_; exact tk_; rfl; exact a6_; exact a7_) | ((with_reducible apply d_gt); rotate_left 1; exact ev_) | ((with_reducible apply d_gf); rotate_left 1; exact a0_) | ((with_reducible apply d_gu); rotate_left 1; exact ev_) | (with_reducible first | apply d_zn | apply d_zb) | ((with_reducible first | apply d_g1 | apply d_g0); rotate_left 2; exact ev_) | exact pr_ | fail)
      · rename_i hh
        have hne : decide (a = b) = false := by
          rw [decide_eq_false_iff_not]
          rintro rfl
          rw [hx] at hy; obtain rfl := Option.some.inj hy
          simp at hh
        rw [hne]
      · rename_i hh
        refine ⟨hlt, ?_, ?_, ?_, fun i u v hi hu hv => ?_⟩
        · simp only [go_sem, ↓reduceIte, Nat.reduceEqDiff, Nat.reduceAdd, Nat.reduceMul, Nat.reduceSub, Nat.reduceLT, Nat.reduceLeDiff, Int.reduceEq, Int.reduceLT, Int.reduceLE, Int.reduceNeg, Int.reduceAdd, Int.reduceSub, reduceCtorEq, *]
        · simp only [go_sem, ↓reduceIte, Nat.reduceEqDiff, Nat.reduceAdd, Nat.reduceMul, Nat.reduceSub, Nat.reduceLT, Nat.reduceLeDiff, Int.reduceEq, Int.reduceLT, Int.reduceLE, Int.reduceNeg, Int.reduceAdd, Int.reduceSub, reduceCtorEq, *]
        · simp only [go_sem, ↓reduceIte, Nat.reduceEqDiff, Nat.reduceAdd, Nat.reduceMul, Nat.reduceSub, Nat.reduceLT, Nat.reduceLeDiff, Int.reduceEq, Int.reduceLT, Int.reduceLE, Int.reduceNeg, Int.reduceAdd, Int.reduceSub, reduceCtorEq, *]
        · by_cases he : i = j
          · subst he
            rw [hx] at hu; rw [hy] at hv
            obtain rfl := Option.some.inj hu; obtain rfl := Option.some.inj hv
            simpa using hh
          · exact iv i u v (by omega) hu hv
    · rw [eqTo hl iv rfl]
      clear hlen hl
      repeat' (first | intro _ | ((with_reducible first | apply s_p | apply s_n); rotate_left 1; exact ev_; rfl) | (with_reducible first | apply s_zn | apply s_zb | apply rn_seq | apply rn_blk | apply w_sn | apply w_sb | apply x_b0 | apply x_nx | apply r_nx | apply r_bk | apply n_nx | apply n_bk | apply q_nx | apply q_bk) | ((with_reducible apply s_gt); rotate_left 1; exact ev_) | ((with_reducible apply s_gf); rotate_left 1; exact a0_) | ((with_reducible apply s_gu); rotate_left 1; exact ev_) | ((with_reducible apply s_cs); rotate_left 1; rfl; exact ev_; exact fv_; rfl) | ((with_reducible apply s_cv); rotate_left 1; rfl; exact ev_; exact fv_; exact a1_; exact a2_; exact tk_) | ((with_reducible apply s_vs); rotate_left 1; exact ev_; rfl; exact ev_; exact fv_; rfl) | ((with_reducible first | apply s_g1 | apply s_g0); rotate_left 2; exact ev_) | ((with_reducible first | apply w_r | apply w_d); rotate_left 1; exact a9_; exact a10_) | ((with_reducible apply w_t); rotate_left 1; exact ev_) | ((with_reducible apply w_f); rotate_left 1; exact ev_) | ((with_reducible apply w_i); rotate_left 2; exact ev_) | ((with_reducible apply x_b1); rotate_left 1; (decide)) | ((with_reducible first | apply f_q | apply f_r | apply f_n | apply g_r | apply g_n); rotate_left 1; exact a11_; exact ev_) | ((with_reducible first | apply d_p | apply d_n); rotate_left 1; exact ev_; rfl; exact a3_; exact a4_) | ((with_reducible apply d_cs); rotate_left 1; rfl; exact ev_; exact fv_; rfl; exact a5_; exact a6_; exact a7_; exact a8_) | ((with_reducible apply d_cv); rotate_left 1; rfl; exact ev_; exact fv_; exact a1_; exact a2_; exact tk_; rfl; exact a6_; exact a7_) | ((with_reducible apply d_gt); rotate_left 1; exact ev_) | ((with_reducible apply d_gf); rotate_left 1; exact a0_) | ((with_reducible apply d_gu); rotate_left 1; exact ev_) | (with_reducible first | apply d_zn | apply d_zb) | ((with_reducible first | apply d_g1 | apply d_g0); rotate_left 2; exact ev_) | exact pr_ | fail)
end Go.Proofs.Ytbpccdengeakgaa.AE
