/-
  Rules of a walk, each with the rewriting that proves its side conditions. Printed by a small program of ours.
-/
import Derived.Test.YtbpccdengeakgaaSteps
import Derived.WalkKit
set_option linter.unusedVariables false
namespace Go.Proofs.Ytbpccdengeakgaa.AE
open Go Go.RowKit
attribute [go_sem] one_1 one_2 ev_t ev_c env_nil env_0 env_s hput_at asI_i asB_b asN_n if_t if_f evP_mv evP_pick evP_alloc evP_box evP_build evP_bsl evP_load evP_store evP_bin evP_un evP_mkfn evP_mks evP_mkmap evP_iaS evP_ixS evP_fad evP_iaA evP_fld evP_ext evP_lenS evP_lenL evP_eqs evP_app evP_slS evP_mget evP_mput evP_nilc evP_bsf evP_bdf evP_cvi evP_mm evP_ibs evP_bts ibsD mm_max mm_min cells_agg cells_int cells_bool cells_str cells_isl cells_nls cells_nlf cells_fn cells_osl cells_mpr cells_ptr cells_ipt frzL_nil frzL_cons nine frz_osl frz_int frz_bool frz_str frz_isl frz_ipt frz_nls frz_nlf frz_und frz_fn frz_agg frz_ptr frzOb frzPt retOb retL_nil retL_osl retL_fn retL_int retL_bool retL_str retL_isl retL_nls retL_agg retL_ptr res_nil res_t res_c mkD_t mkD_f fillD_cons fillD fillR bin_lss bin_leq bin_gtr bin_geq bin_eql bin_neq bin_add bin_sub bin_mul bin_seq bin_sne bin_beq bin_bne un_not cellsAt_ptr cellsAt_ipt cellsOb putAt_ptr putOb elems_osl elems_isl elems_nls rowOb iaD_isl iaD_osl iaOb fadD iaAD fldD extD lenD eqsD eqL eqC appD appOb LimA_eq true_or or_true slSD bnd mgetD mgetOb mputD mputOb nilcD sub spl leaf_int leaf_bool leaf_str leaf_isl leaf_nls leaf_nlf leaf_fn leaf_osl leaf_mpr leaf_ptr leaf_ipt im_int im_bool im_str im_isl im_nls im_nlf im_ipt im_osl im_ptr im_agg im_fn imA_eq imF_eq aggB_agg aggB_fn fnB_fn Option.bind_some Option.map_some Option.getD_some Option.getD_none wr_add1 wr_m1 Lim_eq eq_self eputO_s List.all_cons List.all_nil Bool.and_true Bool.true_and Bool.and_self Bool.true_or Bool.false_or Bool.or_true Bool.or_false Bool.not_true Bool.not_false Bool.false_eq_true List.length_cons List.length_nil List.map_cons List.map_nil List.drop_succ_cons List.drop_zero List.drop_nil List.take_succ_cons List.take_zero List.take_nil List.cons_append List.nil_append List.append_nil List.getElem?_cons_succ List.getElem?_cons_zero List.getElem?_map List.length_map List.isEmpty_nil List.zip_cons_cons List.zip_nil_left List.replicate_succ List.replicate_zero List.set_cons_zero List.set_cons_succ Int.toNat_natCast Int.natCast_nonneg Nat.add_assoc Nat.zero_add Nat.add_zero true_and and_true and_self if_true if_false decide_true decide_false Nat.le_refl
attribute [go_sem ↓] eput_at
def FinQ (F : XF) (res : List D) : Ex → St → Prop
  | .nrm, s => ((resOf s F.res).bind fun ds => retL s.h ds) = some res
  | .ret, s => ((resOf s F.res).bind fun ds => retL s.h ds) = some res
  | .exit _, _ => False
def FinE (F : XF) (res : List D) (K : St → Prop) : Ex → St → Prop
  | .nrm, s => resOf s F.res = some res ∧ K s
  | .ret, s => resOf s F.res = some res ∧ K s
  | .exit _, _ => False
section
variable {e : Env} {h h' h1 : Hp} {k i n m : Nat} {d d1 d2 : D} {b : List Nat} {r ops : List XO} {K : St → Prop} {KD : List Tch → St → Prop} {ts : List Tch} {dst : Option Nat} {t g : Nat} {op : XOp} {x : X} {xs : List X} {ca cb : XC} {Q : Ex → St → Prop} {f : Nat} {args rs : List D} {c gb : Bool} {prs : List (Nat × Nat)} {tc : Tch} {fr : Bool}
theorem ev_ {p : Prop} (h : p := by (first | with_reducible rfl | (simp only [go_sem, ↓reduceIte, Nat.reduceEqDiff, Nat.reduceAdd, Nat.reduceMul, Nat.reduceSub, Nat.reduceLT, Nat.reduceLeDiff, Int.reduceEq, Int.reduceLT, Int.reduceLE, Int.reduceNeg, Int.reduceAdd, Int.reduceSub, reduceCtorEq, *] <;> with_reducible rfl))) : p := h
theorem fv_ {p : Prop} (h : p := by (first | (simp only [go_sem, *] <;> with_reducible rfl) | assumption)) : p := h
theorem tk_ {p : Prop} (h : p := by (simp only [tk_nil, tk_int, tk_bool, tk_str, tk_isl, tk_nls, tk_nlf, tk_agg, tk_own, tk_ipt, tk_fn, Nat.zero_add, Nat.reduceAdd, go_sem] <;> with_reducible rfl)) : p := h
theorem s_p (hr : RO xp md k (i + 8) r (eput e t d) h' n K)
    (he : evP e h (k + i) op = some (d, h'))
    (hc : isCall op = false) :
    RO xp md k i (⟨some t, none, op, b⟩ :: r) e h n K := by
  rw [ro_p hc, he, ys_some]; exact hr
theorem s_n (hr : RO xp md k (i + 8) r e h' n K)
    (he : evP e h (k + i) op = some (d, h'))
    (hc : isCall op = false) :
    RO xp md k i (⟨none, none, op, b⟩ :: r) e h n K := by
  rw [ro_p hc, he, ys_some]; exact hr
theorem s_z (hr : K ⟨e, h, n⟩) :
    RO xp md k i [] e h n K := by
  exact ro_nil.2 hr
theorem s_zn {K' : St → Prop}
    (hr : K' ⟨e, h, n⟩) :
    RO xp md k i [] e h n (fun s => Nx Q K' .nrm s) := by
  exact ro_nil.2 hr
theorem s_zb {id : Nat}
    (hr : Q .nrm ⟨e, h, n⟩) :
    RO xp md k i [] e h n (fun s => Bk id Q .nrm s) := by
  exact ro_nil.2 hr
theorem w_sn {K' : St → Prop}
    (hr : K' ⟨e, h, n⟩) :
    Rn xp md .skip ⟨e, h, n⟩ (Nx Q K') := by
  exact rn_skip hr
theorem w_sb {id : Nat}
    (hr : Q .nrm ⟨e, h, n⟩) :
    Rn xp md .skip ⟨e, h, n⟩ (Bk id Q) := by
  exact rn_skip hr
theorem d_zn {K' : St → Prop}
    (hp : prsOk ts.reverse prs = true)
    (hr : K' ⟨e, h, n⟩) :
    RD xp md k i fr [] e h n ts (fun ts s => prsOk ts prs = true ∧ Nx Q K' .nrm s) := by
  exact rd_nil.2 ⟨hp, hr⟩
theorem d_zb {id : Nat}
    (hp : prsOk ts.reverse prs = true)
    (hr : Q .nrm ⟨e, h, n⟩) :
    RD xp md k i fr [] e h n ts (fun ts s => prsOk ts prs = true ∧ Bk id Q .nrm s) := by
  exact rd_nil.2 ⟨hp, hr⟩
theorem s_gt (hr : RO xp md k i (⟨dst, none, op, b⟩ :: r) e h n K)
    (hg : e g = .bool gb) :
    RO xp md k i (⟨dst, some (g, gb), op, b⟩ :: r) e h n K := by
  rw [ro_g hg, if_pos rfl]; exact hr
theorem s_gf (hr : RO xp md k (i + 8) r (eput e t .und) h n K)
    (hg : e g = .bool (!gb)) :
    RO xp md k i (⟨some t, some (g, gb), op, b⟩ :: r) e h n K := by
  rw [ro_g hg, if_neg (by cases gb <;> simp)]; exact hr
theorem a0_ {p : Prop} (h : p := by (simp only [Bool.not_true, Bool.not_false];  (first | with_reducible rfl | (simp only [go_sem, ↓reduceIte, Nat.reduceEqDiff, Nat.reduceAdd, Nat.reduceMul, Nat.reduceSub, Nat.reduceLT, Nat.reduceLeDiff, Int.reduceEq, Int.reduceLT, Int.reduceLE, Int.reduceNeg, Int.reduceAdd, Int.reduceSub, reduceCtorEq, *] <;> with_reducible rfl)))) : p := h
theorem s_g1 (h1 : c = true → RO xp md k i (⟨some t, none, op, b⟩ :: r) e h n K)
    (h2 : c = false → RO xp md k (i + 8) r (eput e t .und) h n K)
    (hg : e g = .bool c) :
    RO xp md k i (⟨some t, some (g, true), op, b⟩ :: r) e h n K := by
  rw [ro_g hg]; cases c
  · exact h2 rfl
  · exact h1 rfl
theorem s_g0 (h1 : c = false → RO xp md k i (⟨some t, none, op, b⟩ :: r) e h n K)
    (h2 : c = true → RO xp md k (i + 8) r (eput e t .und) h n K)
    (hg : e g = .bool c) :
    RO xp md k i (⟨some t, some (g, false), op, b⟩ :: r) e h n K := by
  rw [ro_g hg]; cases c
  · exact h1 rfl
  · exact h2 rfl
theorem s_gu (hr : RO xp md k (i + 8) r (eput e t .und) h n K)
    (hg : e g = .und) :
    RO xp md k i (⟨some t, some (g, gb), op, b⟩ :: r) e h n K := by
  rw [ro_gu hg]; exact hr
theorem s_cs (hr : RO xp md k (i + 8) r (eput e t (one rs)) h n K)
    (hm : md f = false)
    (hq : frzL (fun h d => frz 9 h d) h (xs.map (X.ev e)) = some (args, h1))
    (hf : callP (Lv xp md) f args = some rs)
    (hs : rs.all D.scalar = true) :
    RO xp md k i (⟨some t, none, .call f xs, b⟩ :: r) e h n K := by
  rw [ro_call hm, hq, ys_some, hf, ys_some, if_pos hs]; exact hr
theorem s_cv {args' : List D}
    (hr : RO xp md k (i + 8) r (eput e t (one args')) h' n K)
    (hm : md f = false)
    (hq : frzL (fun h d => frz 9 h d) h (xs.map (X.ev e)) = some (args, h1))
    (hf : callP (Lv xp md) f args = some rs)
    (hv : rs.all D.scalar = false)
    (hl : rs.length ≤ 8)
    (ht : takeIn h1 (k + i) rs = (args', h')) :
    RO xp md k i (⟨some t, none, .call f xs, b⟩ :: r) e h n K := by
  rw [ro_call hm, hq, ys_some, hf, ys_some, if_neg (by rw [hv]; simp), if_pos hl, ht]; exact hr
theorem a1_ {p : Prop} (h : p := by (first | rfl | (simp only [go_sem, *] <;> rfl))) : p := h
theorem a2_ {p : Prop} (h : p := by (simp only [List.length_cons, List.length_nil]; omega)) : p := h
theorem s_vs {caps : List D}
    (hr : RO xp md k (i + 8) r (eput e t (one rs)) h n K)
    (hx : x.ev e = .fn f caps)
    (hm : md f = false)
    (hq : frzL (fun h d => frz 9 h d) h (xs.map (X.ev e) ++ caps) = some (args, h1))
    (hf : callP (Lv xp md) f args = some rs)
    (hs : rs.all D.scalar = true) :
    RO xp md k i (⟨some t, none, .callv x xs, b⟩ :: r) e h n K := by
  rw [ro_cons]; simp only [wantedD, ys_some, if_true]; rw [ev_callv hx hm, hq, ys_some, hf, ys_some, if_pos hs]; exact hr
theorem s_vE {caps : List D} {ds : List D} {n' : Nat}
    (hf : Lv xp md f args h n = some (ds, h', n'))
    (hr : RO xp md k (i + 8) r (eputO e dst (one ds)) h' n' K)
    (hx : x.ev e = .fn f caps)
    (hq : xs.map (X.ev e) ++ caps = args)
    (hm : md f = true) :
    RO xp md k i (⟨dst, none, .callv x xs, b⟩ :: r) e h n K := by
  rw [ro_cons]; simp only [wantedD, ys_some, if_true]; rw [ev_callE hx hm, hq, hf, ys_some]; exact hr
theorem d_p (hr : RD xp md k (i + 8) fr r (eput e t d) h' n (tc :: ts) KD)
    (he : evP e h (k + i) op = some (d, h'))
    (hc : isCall op = false)
    (hk : okD md (Lv xp md) e h n op = true)
    (htc : touch md e h op = tc) :
    RD xp md k i fr (⟨some t, none, op, b⟩ :: r) e h n ts KD := by
  rw [rd_p hc, he, ys_some, htc]; exact ⟨hk, hr⟩
theorem a3_ {p : Prop} (h : p := by (first | rfl | (simp only [okD, any1, cont1, nm_int, nm_bool, nm_str, nm_isl, nm_nls, nm_nlf, nm_ipt, nm_agg, nm_osl, nm_ptr, nm_mpr, nm_fn, List.any_nil, here_row, here_var, here_mp, nmL, nmN_0, nmD_int, nmD_bool, nmD_str, nmD_isl, nmD_nls, nmD_nlf, nmD_ipt, nmD_und, nmD_agg, nmD_osl, nmD_ptr, nmD_mpr, nmD_fn, nmOb, List.flatMap_cons, List.flatMap_nil, nmD_im, nmF_im, go_sem, ↓reduceIte, Nat.reduceEqDiff, Nat.reduceAdd, Nat.reduceMul, Nat.reduceSub, Nat.reduceLT, Nat.reduceLeDiff, Int.reduceEq, Int.reduceLT, Int.reduceLE, Int.reduceNeg, Int.reduceAdd, Int.reduceSub, reduceCtorEq, *, Bool.or_true, Bool.true_or, Bool.false_or] <;> with_reducible rfl))) : p := h
theorem a4_ {p : Prop} (h : p := by ((simp only [touch, nm_int, nm_bool, nm_str, nm_isl, nm_nls, nm_nlf, nm_ipt, nm_agg, nm_osl, nm_ptr, nm_mpr, nm_fn, nmL, nmN_0, nmD_int, nmD_bool, nmD_str, nmD_isl, nmD_nls, nmD_nlf, nmD_ipt, nmD_und, nmD_agg, nmD_osl, nmD_ptr, nmD_mpr, nmD_fn, nmOb, List.flatMap_cons, List.flatMap_nil, nmD_im, nmF_im, go_sem, ↓reduceIte, Nat.reduceEqDiff, Nat.reduceAdd, Nat.reduceMul, Nat.reduceSub, Nat.reduceLT, Nat.reduceLeDiff, Int.reduceEq, Int.reduceLT, Int.reduceLE, Int.reduceNeg, Int.reduceAdd, Int.reduceSub, reduceCtorEq, *] <;> with_reducible rfl))) : p := h
theorem d_n (hr : RD xp md k (i + 8) fr r e h' n (tc :: ts) KD)
    (he : evP e h (k + i) op = some (d, h'))
    (hc : isCall op = false)
    (hk : okD md (Lv xp md) e h n op = true)
    (htc : touch md e h op = tc) :
    RD xp md k i fr (⟨none, none, op, b⟩ :: r) e h n ts KD := by
  rw [rd_p hc, he, ys_some, htc]; exact ⟨hk, hr⟩
theorem d_z (hr : KD ts.reverse ⟨e, h, n⟩) :
    RD xp md k i fr [] e h n ts KD := by
  exact rd_nil.2 hr
theorem d_gt (hr : RD xp md k i fr (⟨dst, none, op, b⟩ :: r) e h n ts KD)
    (hg : e g = .bool gb) :
    RD xp md k i fr (⟨dst, some (g, gb), op, b⟩ :: r) e h n ts KD := by
  rw [rd_g hg, if_pos rfl]; exact hr
theorem d_gf (hr : RD xp md k (i + 8) fr r (eput e t .und) h n (([], []) :: ts) KD)
    (hg : e g = .bool (!gb)) :
    RD xp md k i fr (⟨some t, some (g, gb), op, b⟩ :: r) e h n ts KD := by
  rw [rd_g hg, if_neg (by cases gb <;> simp)]; exact hr
theorem d_g1 (h1 : c = true → RD xp md k i fr (⟨some t, none, op, b⟩ :: r) e h n ts KD)
    (h2 : c = false → RD xp md k (i + 8) fr r (eput e t .und) h n (([], []) :: ts) KD)
    (hg : e g = .bool c) :
    RD xp md k i fr (⟨some t, some (g, true), op, b⟩ :: r) e h n ts KD := by
  rw [rd_g hg]; cases c
  · exact h2 rfl
  · exact h1 rfl
theorem d_g0 (h1 : c = false → RD xp md k i fr (⟨some t, none, op, b⟩ :: r) e h n ts KD)
    (h2 : c = true → RD xp md k (i + 8) fr r (eput e t .und) h n (([], []) :: ts) KD)
    (hg : e g = .bool c) :
    RD xp md k i fr (⟨some t, some (g, false), op, b⟩ :: r) e h n ts KD := by
  rw [rd_g hg]; cases c
  · exact h1 rfl
  · exact h2 rfl
theorem d_gu (hr : RD xp md k (i + 8) fr r (eput e t .und) h n (([], []) :: ts) KD)
    (hg : e g = .und) :
    RD xp md k i fr (⟨some t, some (g, gb), op, b⟩ :: r) e h n ts KD := by
  rw [rd_gu hg]; exact hr
theorem okc {C : Calls1} {T : List Nat} (hm : md f = false) (hT : nmL h (xs.map (X.ev e)) = T) (hh : T.all (fun l => (h l).here) = true) (hq : frzL (fun h d => frz 9 h d) h (xs.map (X.ev e)) = some (args, h1)) (hf : callP C f args = some rs) (hs : rs.all D.scalar = true) : okD md C e h n (.call f xs) = true := by
  simp only [okD, okCall, hm, hT, hh, hq, Option.bind_some, hf, Option.any_some, hs]
  simp
theorem oki {C : Calls1} {T : List Nat} (hm : md f = false) (hr : rdr md f = false) (hT : nmL h (xs.map (X.ev e)) = T) (hh : T.all (fun l => (h l).here) = true) : okD md C e h n (.call f xs) = true := by
  simp only [okD, okCall, hm, hr, hT, hh]
  simp
theorem okm {C : Calls1} {T : List Nat} (hm : md f = true) (hq : xs.map (X.ev e) = args) (hT : nmL h args = T) (hh : T.all (fun l => (h l).here) = true) (hk : ∃ r, C f args (restr h T n) n = some r) : okD md C e h n (.call f xs) = true := by
  obtain ⟨r, hr⟩ := hk
  simp only [okD, okCall, hm, hq, hT, hh, hr]
  simp
theorem tcf {rb : Bool} (hr : rdr md f = rb) {T : List Nat} (hT : nmL h (xs.map (X.ev e)) = T) : touch md e h (.call f xs) = tcR rb T := by
  show tchC md h f _ = _
  unfold tchC
  rw [hr, hT]; cases rb <;> rfl
theorem d_cs {T : List Nat} {rb : Bool}
    (hr : RD xp md k (i + 8) fr r (eput e t (one rs)) h n (tc :: ts) KD)
    (hm : md f = false)
    (hq : frzL (fun h d => frz 9 h d) h (xs.map (X.ev e)) = some (args, h1))
    (hf : callP (Lv xp md) f args = some rs)
    (hs : rs.all D.scalar = true)
    (hrb : rdr md f = rb)
    (htc : nmL h (xs.map (X.ev e)) = T)
    (hh : T.all (fun l => (h l).here) = true)
    (htr : tcR rb T = tc) :
    RD xp md k i fr (⟨some t, none, .call f xs, b⟩ :: r) e h n ts KD := by
  rw [rd_call hm, hq, ys_some, hf, ys_some, if_pos hs, tcf hrb htc, htr]; exact ⟨okc hm htc hh hq hf hs, hr⟩
theorem a5_ {p : Prop} (h : p := by (first | exact rdr_f rfl | exact rdr_t rfl)) : p := h
theorem a6_ {p : Prop} (h : p := by ((simp only [nmL, nmN_0, nmD_int, nmD_bool, nmD_str, nmD_isl, nmD_nls, nmD_nlf, nmD_ipt, nmD_und, nmD_agg, nmD_osl, nmD_ptr, nmD_mpr, nmD_fn, nmOb, List.flatMap_cons, List.flatMap_nil, nmD_im, nmF_im, go_sem, ↓reduceIte, Nat.reduceEqDiff, Nat.reduceAdd, Nat.reduceMul, Nat.reduceSub, Nat.reduceLT, Nat.reduceLeDiff, Int.reduceEq, Int.reduceLT, Int.reduceLE, Int.reduceNeg, Int.reduceAdd, Int.reduceSub, reduceCtorEq, *] <;> with_reducible rfl))) : p := h
theorem a7_ {p : Prop} (h : p := by ((first | rfl | (simp only [here_row, here_var, here_mp, go_sem, ↓reduceIte, Nat.reduceEqDiff, Nat.reduceAdd, Nat.reduceMul, Nat.reduceSub, Nat.reduceLT, Nat.reduceLeDiff, Int.reduceEq, Int.reduceLT, Int.reduceLE, Int.reduceNeg, Int.reduceAdd, Int.reduceSub, reduceCtorEq, *] <;> with_reducible rfl)))) : p := h
theorem a8_ {p : Prop} (h : p := by (first | exact tcR_f _ | exact tcR_t _)) : p := h
theorem d_cv {args' : List D} {T : List Nat}
    (hr : RD xp md k (i + 8) fr r (eput e t (one args')) h' n (([], T) :: ts) KD)
    (hm : md f = false)
    (hq : frzL (fun h d => frz 9 h d) h (xs.map (X.ev e)) = some (args, h1))
    (hf : callP (Lv xp md) f args = some rs)
    (hv : rs.all D.scalar = false)
    (hl : rs.length ≤ 8)
    (ht : takeIn h1 (k + i) rs = (args', h'))
    (hrf : rdr md f = false)
    (htc : nmL h (xs.map (X.ev e)) = T)
    (hh : T.all (fun l => (h l).here) = true) :
    RD xp md k i fr (⟨some t, none, .call f xs, b⟩ :: r) e h n ts KD := by
  rw [rd_call hm, hq, ys_some, hf, ys_some, if_neg (by rw [hv]; simp), if_pos hl, ht, tcf hrf htc]; exact ⟨oki hm hrf htc hh, hr⟩
theorem s_mE {ds : List D} {n' : Nat}
    (hf : Lv xp md f args h n = some (ds, h', n'))
    (hr : RO xp md k (i + 8) r (eputO e dst (one ds)) h' n' K)
    (hq : xs.map (X.ev e) = args)
    (hm : md f = true) :
    RO xp md k i (⟨dst, none, .call f xs, b⟩ :: r) e h n K := by
  rw [ro_cons]; simp only [wantedD, ys_some, if_true]; rw [ev_callM hm, hq, hf, ys_some]; exact hr
theorem d_mE {ds : List D} {n' : Nat} {T : List Nat}
    (hf : Lv xp md f args h n = some (ds, h', n'))
    (hf2 : ∃ r, Lv xp md f args (restr h T n) n = some r)
    (hr : RD xp md k (i + 8) false r (eputO e dst (one ds)) h' n' (([], T) :: ts) KD)
    (hq : xs.map (X.ev e) = args)
    (hm : md f = true)
    (htc : nmL h args = T)
    (hh : T.all (fun l => (h l).here) = true) :
    RD xp md k i true (⟨dst, none, .call f xs, b⟩ :: r) e h n ts KD := by
  rw [rd_callm hm, hq, hf, ys_some, htc]; exact ⟨okm hm hq htc hh hf2, hr⟩
theorem w_r (hh : RO xp md k 0 ops e h n fun s => Q .nrm s)
    (hm : 8 * ops.length = m)
    (hk : k + m = n) :
    Rn xp md (.reg false prs ops) ⟨e, h, k⟩ Q := by
  subst hk hm; exact rn_r hh
theorem a9_ {p : Prop} (h : p := by ((simp only [LN]) <;> rfl)) : p := h
theorem a10_ {p : Prop} (h : p := by (first | (simp only [Nat.zero_add, Nat.reduceAdd] <;> rfl) | rfl)) : p := h
theorem w_d (hh : RD xp md k 0 true ops e h n [] fun ts s => prsOk ts prs = true ∧ Q .nrm s)
    (hm : 8 * ops.length = m)
    (hk : k + m = n) :
    Rn xp md (.reg true prs ops) ⟨e, h, k⟩ Q := by
  subst hk hm; exact rn_d hh
theorem w_t (hh : Rn xp md ca ⟨e, h, k⟩ Q)
    (hc : x.ev e = .bool true) :
    Rn xp md (.cond x ca cb) ⟨e, h, k⟩ Q := by
  exact rn_cond (s := ⟨e, h, k⟩) hc hh
theorem w_f (hh : Rn xp md cb ⟨e, h, k⟩ Q)
    (hc : x.ev e = .bool false) :
    Rn xp md (.cond x ca cb) ⟨e, h, k⟩ Q := by
  exact rn_cond (s := ⟨e, h, k⟩) hc hh
theorem w_i (ht : c = true → Rn xp md ca ⟨e, h, k⟩ Q)
    (hf : c = false → Rn xp md cb ⟨e, h, k⟩ Q)
    (hc : x.ev e = .bool c) :
    Rn xp md (.cond x ca cb) ⟨e, h, k⟩ Q := by
  cases c
  · exact rn_cond (s := ⟨e, h, k⟩) (t := false) hc (hf rfl)
  · exact rn_cond (s := ⟨e, h, k⟩) (t := true) hc (ht rfl)
theorem x_nx {K' : St → Prop}
    (hr : Rn xp md (.exit i) ⟨e, h, k⟩ Q) :
    Rn xp md (.exit i) ⟨e, h, k⟩ (Nx Q K') := by
  obtain ⟨n, ⟨x, s⟩, h1, h2⟩ := hr; cases h1; exact rn_exit h2
theorem x_b0 (hr : Q .nrm ⟨e, h, k⟩) :
    Rn xp md (.exit i) ⟨e, h, k⟩ (Bk i Q) := by
  exact rn_exit (by simp only [Bk, if_true]; exact hr)
theorem x_b1 {id : Nat}
    (hr : Rn xp md (.exit i) ⟨e, h, k⟩ Q)
    (hn : i ≠ id) :
    Rn xp md (.exit i) ⟨e, h, k⟩ (Bk id Q) := by
  obtain ⟨n, ⟨x, s⟩, h1, h2⟩ := hr; cases h1; exact rn_exit (by simp only [Bk, if_neg hn]; exact h2)
theorem r_nx {K' : St → Prop}
    (hr : Rn xp md .ret ⟨e, h, k⟩ Q) :
    Rn xp md .ret ⟨e, h, k⟩ (Nx Q K') := by
  obtain ⟨n, ⟨x, s⟩, h1, h2⟩ := hr; cases h1; exact rn_ret h2
theorem r_bk {id : Nat}
    (hr : Rn xp md .ret ⟨e, h, k⟩ Q) :
    Rn xp md .ret ⟨e, h, k⟩ (Bk id Q) := by
  obtain ⟨n, ⟨x, s⟩, h1, h2⟩ := hr; cases h1; exact rn_ret h2
theorem n_nx {K' : St → Prop}
    (hr : K' ⟨e, h, k⟩) :
    Nx Q K' .nrm ⟨e, h, k⟩ := by
  exact hr
theorem n_bk {id : Nat}
    (hr : Q .nrm ⟨e, h, k⟩) :
    Bk id Q .nrm ⟨e, h, k⟩ := by
  exact hr
theorem f_r {F : XF} {res res' : List D} {l : List (Nat × Option (Nat × Bool))}
    (hres : res' = res)
    (hF : F.res = l)
    (hr : ((resOf (⟨e, h, k⟩ : St) l).bind fun ds => retL h ds) = some res') :
    Rn xp md .ret ⟨e, h, k⟩ (FinQ F res) := by
  exact rn_ret (by simp only [FinQ]; rw [hF]; exact hr.trans (congrArg some hres))
theorem a11_ {p : Prop} (h : p := by ((simp only [RS]) <;> rfl)) : p := h
theorem f_n {F : XF} {res res' : List D} {l : List (Nat × Option (Nat × Bool))}
    (hres : res' = res)
    (hF : F.res = l)
    (hr : ((resOf (⟨e, h, k⟩ : St) l).bind fun ds => retL h ds) = some res') :
    FinQ F res .nrm ⟨e, h, k⟩ := by
  simp only [FinQ]; rw [hF]; exact hr.trans (congrArg some hres)
theorem fn_v {F : XF} {res : List D}
    (hF : xp f = some F)
    (hh : Rn xp md F.body ⟨envOf args, fun _ => .no, 0⟩ (FinQ F res))
    (ha : args.length ≤ F.nt := by (simp only [NT, List.length_cons, List.length_nil]; omega)) :
    callP (Lv xp md) f args = some res := by
  refine Fv_intro hF ha (hh.mono fun x s hx => ?_)
  cases x with
  | nrm => exact ⟨.inl rfl, hx⟩
  | ret => exact ⟨.inr rfl, hx⟩
  | exit i => exact hx.elim
theorem a12_ {p : Prop} (h : p := by ((simp only [NT, List.length_cons, List.length_nil]; omega))) : p := h
theorem q_nx {K' : St → Prop}
    (hr : Q .ret ⟨e, h, k⟩) :
    Nx Q K' .ret ⟨e, h, k⟩ := by
  exact hr
theorem q_bk {id : Nat}
    (hr : Q .ret ⟨e, h, k⟩) :
    Bk id Q .ret ⟨e, h, k⟩ := by
  exact hr
theorem f_q {F : XF} {res res' : List D} {l : List (Nat × Option (Nat × Bool))}
    (hres : res' = res)
    (hF : F.res = l)
    (hr : ((resOf (⟨e, h, k⟩ : St) l).bind fun ds => retL h ds) = some res') :
    FinQ F res .ret ⟨e, h, k⟩ := by
  simp only [FinQ]; rw [hF]; exact hr.trans (congrArg some hres)
theorem g_r {F : XF} {res res' : List D} {l : List (Nat × Option (Nat × Bool))}
    (hres : res' = res ∧ K ⟨e, h, k⟩)
    (hF : F.res = l)
    (hr : resOf (⟨e, h, k⟩ : St) l = some res') :
    Rn xp md .ret ⟨e, h, k⟩ (FinE F res K) := by
  exact rn_ret (by simp only [FinE]; rw [hF]; exact ⟨hr.trans (congrArg some hres.1), hres.2⟩)
theorem g_n {F : XF} {res res' : List D} {l : List (Nat × Option (Nat × Bool))}
    (hres : res' = res ∧ K ⟨e, h, k⟩)
    (hF : F.res = l)
    (hr : resOf (⟨e, h, k⟩ : St) l = some res') :
    FinE F res K .nrm ⟨e, h, k⟩ := by
  simp only [FinE]; rw [hF]; exact ⟨hr.trans (congrArg some hres.1), hres.2⟩
theorem fn_e {F : XF} {res : List D}
    (hF : xp f = some F)
    (hh : Rn xp md F.body ⟨envOf args, h, k⟩ (FinE F res K))
    (ha : args.length ≤ F.nt := by (simp only [NT, List.length_cons, List.length_nil]; omega)) :
    ∃ h' k', Lv xp md f args h k = some (res, h', k') ∧ ∃ e, K ⟨e, h', k'⟩ := by
  obtain ⟨n, ⟨x, s⟩, h1, h2⟩ := hh
  have : (x = .nrm ∨ x = .ret) ∧ resOf s F.res = some res ∧ K s := by
    cases x with
    | nrm => exact ⟨.inl rfl, h2⟩
    | ret => exact ⟨.inr rfl, h2⟩
    | exit i => exact h2.elim
  exact ⟨s.h, s.k, Lv_intro hF ha ⟨n, (x, s), h1, this.1, this.2.1, rfl, rfl⟩, s.e, this.2.2⟩
theorem pr_ {p : Prop} (h : p := by (simp (disch := omega) only [prsOk_cons, prsOk_nil, List.reverse_cons, List.reverse_nil, List.nil_append, List.cons_append, List.getD_cons_succ, List.getD_cons_zero, apartT_rr, apartT_l, apartT_rl, apartT_rw, apartT_wr, apartT_ww, Bool.and_self] <;> fail)) : p := h
theorem nc2 : ((2 : Nat) : Int) = 2 := rfl
theorem nc3 : ((3 : Nat) : Int) = 3 := rfl
theorem tn0 : Int.toNat 0 = 0 := rfl
theorem tn1 : Int.toNat 1 = 1 := rfl
theorem tn2 : Int.toNat 2 = 2 := rfl
attribute [go_sem] nc2 nc3 tn0 tn1 tn2
structure Kd (K : Prop) : Prop where
  out : K
theorem gD {p : Prop} (h : p := by ((repeat' (first | intro _ | ((with_reducible first | apply s_p | apply s_n); rotate_left 1; exact ev_; rfl) | (with_reducible first | apply s_zn | apply s_zb | apply rn_seq | apply rn_blk | apply w_sn | apply w_sb | apply x_b0 | apply x_nx | apply r_nx | apply r_bk | apply n_nx | apply n_bk | apply q_nx | apply q_bk) | ((with_reducible apply s_gt); rotate_left 1; exact ev_) | ((with_reducible apply s_gf); rotate_left 1; exact a0_) | ((with_reducible apply s_gu); rotate_left 1; exact ev_) | ((with_reducible apply s_cs); rotate_left 1; rfl; exact ev_; exact fv_; rfl) | ((with_reducible apply s_cv); rotate_left 1; rfl; exact ev_; exact fv_; exact a1_; exact a2_; exact tk_) | ((with_reducible apply s_vs); rotate_left 1; exact ev_; rfl; exact ev_; exact fv_; rfl) | ((with_reducible first | apply s_g1 | apply s_g0); rotate_left 2; exact ev_) | ((with_reducible first | apply w_r | apply w_d); rotate_left 1; exact a9_; exact a10_) | ((with_reducible apply w_t); rotate_left 1; exact ev_) | ((with_reducible apply w_f); rotate_left 1; exact ev_) | ((with_reducible apply w_i); rotate_left 2; exact ev_) | ((with_reducible apply x_b1); rotate_left 1; (decide)) | ((with_reducible first | apply f_q | apply f_r | apply f_n | apply g_r | apply g_n); rotate_left 1; exact a11_; exact ev_) | ((with_reducible first | apply d_p | apply d_n); rotate_left 1; exact ev_; rfl; exact a3_; exact a4_) | ((with_reducible apply d_cs); rotate_left 1; rfl; exact ev_; exact fv_; rfl; exact a5_; exact a6_; exact a7_; exact a8_) | ((with_reducible apply d_cv); rotate_left 1; rfl; exact ev_; exact fv_; exact a1_; exact a2_; exact tk_; rfl; exact a6_; exact a7_) | ((with_reducible apply d_gt); rotate_left 1; exact ev_) | ((with_reducible apply d_gf); rotate_left 1; exact a0_) | ((with_reducible apply d_gu); rotate_left 1; exact ev_) | (with_reducible first | apply d_zn | apply d_zb) | ((with_reducible first | apply d_g1 | apply d_g0); rotate_left 2; exact ev_) | exact pr_ | fail)) <;> fail)) : p := h
theorem gK {p K : Prop} (hk : K) (h : Kd K → p := by (intro k_; ((repeat' (first | intro _ | ((with_reducible first | apply s_p | apply s_n); rotate_left 1; exact ev_; rfl) | (with_reducible first | apply s_zn | apply s_zb | apply rn_seq | apply rn_blk | apply w_sn | apply w_sb | apply x_b0 | apply x_nx | apply r_nx | apply r_bk | apply n_nx | apply n_bk | apply q_nx | apply q_bk) | ((with_reducible apply s_gt); rotate_left 1; exact ev_) | ((with_reducible apply s_gf); rotate_left 1; exact a0_) | ((with_reducible apply s_gu); rotate_left 1; exact ev_) | ((with_reducible apply s_cs); rotate_left 1; rfl; exact ev_; exact fv_; rfl) | ((with_reducible apply s_cv); rotate_left 1; rfl; exact ev_; exact fv_; exact a1_; exact a2_; exact tk_) | ((with_reducible apply s_vs); rotate_left 1; exact ev_; rfl; exact ev_; exact fv_; rfl) | ((with_reducible first | apply s_g1 | apply s_g0); rotate_left 2; exact ev_) | ((with_reducible first | apply w_r | apply w_d); rotate_left 1; exact a9_; exact a10_) | ((with_reducible apply w_t); rotate_left 1; exact ev_) | ((with_reducible apply w_f); rotate_left 1; exact ev_) | ((with_reducible apply w_i); rotate_left 2; exact ev_) | ((with_reducible apply x_b1); rotate_left 1; (decide)) | ((with_reducible first | apply f_q | apply f_r | apply f_n | apply g_r | apply g_n); rotate_left 1; exact a11_; exact ev_) | ((with_reducible first | apply d_p | apply d_n); rotate_left 1; exact ev_; rfl; exact a3_; exact a4_) | ((with_reducible apply d_cs); rotate_left 1; rfl; exact ev_; exact fv_; rfl; exact a5_; exact a6_; exact a7_; exact a8_) | ((with_reducible apply d_cv); rotate_left 1; rfl; exact ev_; exact fv_; exact a1_; exact a2_; exact tk_; rfl; exact a6_; exact a7_) | ((with_reducible apply d_gt); rotate_left 1; exact ev_) | ((with_reducible apply d_gf); rotate_left 1; exact a0_) | ((with_reducible apply d_gu); rotate_left 1; exact ev_) | (with_reducible first | apply d_zn | apply d_zb) | ((with_reducible first | apply d_g1 | apply d_g0); rotate_left 2; exact ev_) | exact pr_ | fail)) <;> exact k_.out))) : p := h ⟨hk⟩
theorem eA {p : Prop} (h : p := by (simp only [go_sem, ↓reduceIte, Nat.reduceEqDiff, Nat.reduceAdd, Nat.reduceMul, Nat.reduceSub, Nat.reduceLT, Nat.reduceLeDiff, Int.reduceEq, Int.reduceLT, Int.reduceLE, Int.reduceNeg, Int.reduceAdd, Int.reduceSub, reduceCtorEq] <;> fail)) : p := h
theorem eB {p : Prop} (h : p := by (simp only [go_sem, ↓reduceIte, Nat.reduceEqDiff, Nat.reduceAdd, Nat.reduceMul, Nat.reduceSub, Nat.reduceLT, Nat.reduceLeDiff, Int.reduceEq, Int.reduceLT, Int.reduceLE, Int.reduceNeg, Int.reduceAdd, Int.reduceSub, reduceCtorEq]; rfl)) : p := h
theorem eC {p : Prop} (h : p := by (simp only [go_sem, ↓reduceIte, Nat.reduceEqDiff, Nat.reduceAdd, Nat.reduceMul, Nat.reduceSub, Nat.reduceLT, Nat.reduceLeDiff, Int.reduceEq, Int.reduceLT, Int.reduceLE, Int.reduceNeg, Int.reduceAdd, Int.reduceSub, reduceCtorEq, *] <;> fail)) : p := h
theorem eD {p : Prop} (h : p := by (simp only [go_sem, ↓reduceIte, Nat.reduceEqDiff, Nat.reduceAdd, Nat.reduceMul, Nat.reduceSub, Nat.reduceLT, Nat.reduceLeDiff, Int.reduceEq, Int.reduceLT, Int.reduceLE, Int.reduceNeg, Int.reduceAdd, Int.reduceSub, reduceCtorEq, *]; rfl)) : p := h
theorem eO {p : Prop} (h : p := by (simp only; omega)) : p := h
end
end Go.Proofs.Ytbpccdengeakgaa.AE
