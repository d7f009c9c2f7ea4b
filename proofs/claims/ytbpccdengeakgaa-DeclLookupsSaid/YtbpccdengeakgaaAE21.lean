/-
  AE, part 21: rules to evaluate regions by rewriting.
-/
import Derived.Test.YtbpccdengeakgaaAE20
set_option linter.unusedVariables false
set_option linter.unusedSimpArgs false
namespace Go.Proofs.Ytbpccdengeakgaa.AE
open Go Go.RowKit
section
variable {xp : Nat → Option XF} {md : Nat → Bool} {e : Env} {h h' : Hp} {k i n : Nat} {d : D} {b : List Nat} {r : List XO} {K : St → Prop} {α β : Type}
/-- A yield, if any, of which Q holds. -/
def Ys (x : Option α) (Q : α → Prop) : Prop := ∃ a, x = some a ∧ Q a
theorem ys_some {a : α} {Q : α → Prop} : Ys (some a) Q ↔ Q a := ⟨fun ⟨_, h, q⟩ => (by cases h; exact q), fun q => ⟨a, rfl, q⟩⟩
theorem ys_none {Q : α → Prop} : Ys none Q ↔ False := ⟨fun ⟨_, h, _⟩ => (by cases h), False.elim⟩
theorem ys_bind {x : Option β} {f : β → Option α} {Q : α → Prop} : Ys (x.bind f) Q ↔ Ys x fun a => Ys (f a) Q := by
  cases x with
  | none => exact ⟨fun ⟨_, h, _⟩ => (by cases h), fun ⟨_, h, _⟩ => (by cases h)⟩
  | some a => rw [ys_some]; exact Iff.rfl
theorem ys_ite {c : Prop} [Decidable c] {x y : Option α} {Q : α → Prop} : Ys (if c then x else y) Q ↔ if c then Ys x Q else Ys y Q := by split <;> exact Iff.rfl
theorem ys_pos {c : Prop} [Decidable c] (hc : c) {x y : Option α} {Q : α → Prop} : Ys (if c then x else y) Q ↔ Ys x Q := by rw [if_pos hc]
theorem ys_neg {c : Prop} [Decidable c] (hc : ¬ c) {x y : Option α} {Q : α → Prop} : Ys (if c then x else y) Q ↔ Ys y Q := by rw [if_neg hc]
/-- The operations of a region from number i / 8 on. -/
def RO (xp : Nat → Option XF) (md : Nat → Bool) (k i : Nat) (l : List XO) (e : Env) (h : Hp) (n : Nat) (K : St → Prop) : Prop := Ys (evOps md (Lv xp md) (k + i) l ⟨e, h, n⟩) K
theorem ro_nil : RO xp md k i [] e h n K ↔ K ⟨e, h, n⟩ := ys_some
theorem ro_cons {dst : Option Nat} {g : Option (Nat × Bool)} {op : XOp} : RO xp md k i (⟨dst, g, op, b⟩ :: r) e h n K ↔
    Ys (wantedD e g) fun w => if w then Ys (evOp md (Lv xp md) e h (k + i) n op) fun q => RO xp md k (i + 8) r (eputO e dst q.1) q.2.1 q.2.2 K else RO xp md k (i + 8) r (eputO e dst .und) h n K := by
  unfold RO
  simp only [evOps, ys_bind]
  constructor
  · rintro ⟨w, hw, q⟩
    refine ⟨w, hw, ?_⟩
    cases w with
    | true => simp only [if_true, ys_bind] at q ⊢; exact q
    | false => simp only [Bool.false_eq_true, if_false] at q ⊢; exact q
  · rintro ⟨w, hw, q⟩
    refine ⟨w, hw, ?_⟩
    cases w with
    | true => simp only [if_true, ys_bind] at q ⊢; exact q
    | false => simp only [Bool.false_eq_true, if_false] at q ⊢; exact q
/-- No guard, a plain operation. -/
theorem ro_p {dst : Option Nat} {op : XOp} (hc : isCall op = false) : RO xp md k i (⟨dst, none, op, b⟩ :: r) e h n K ↔ Ys (evP e h (k + i) op) fun q => RO xp md k (i + 8) r (eputO e dst q.1) q.2 n K := by
  rw [ro_cons]
  simp only [wantedD, ys_some, if_true]
  unfold evOp
  simp only [hc, Bool.false_eq_true, if_false, ys_bind, ys_some]
/-- A call by value. -/
theorem ev_call {f : Nat} {xs : List X} (hm : md f = false) {Q : D × Hp × Nat → Prop} : Ys (evOp md (Lv xp md) e h k n (.call f xs)) Q ↔ Ys (frzL (fun h d => frz 9 h d) h (xs.map (X.ev e))) fun q => Ys (callP (Lv xp md) f q.1) fun rs =>
    if rs.all D.scalar then Q (one rs, h, n) else if rs.length ≤ 8 then Q (one (takeIn q.2 k rs).1, (takeIn q.2 k rs).2, n) else False := by
  unfold evOp
  simp only [isCall, if_true, target, Option.bind_some, hm, Bool.false_eq_true, if_false, ys_bind]
  constructor
  · rintro ⟨q, hq, rs, hr, a, ha, hQ⟩
    refine ⟨q, hq, rs, hr, ?_⟩
    split at ha
    · rename_i hs; simp only [hs, if_true]; cases ha; exact hQ
    · rename_i hs
      simp only [hs, Bool.false_eq_true, if_false]
      split at ha
      · rename_i hl; have hl : rs.length ≤ 8 := hl; simp only [hl, if_true]; cases ha; exact hQ
      · cases ha
  · rintro ⟨q, hq, rs, hr, hQ⟩
    refine ⟨q, hq, rs, hr, ?_⟩
    split at hQ
    · rename_i hs; rw [if_pos hs]; exact ⟨_, rfl, hQ⟩
    · rename_i hs
      rw [if_neg hs]
      split at hQ
      · rename_i hl; rw [if_pos (show rs.length ≤ W8 from hl)]; exact ⟨_, rfl, hQ⟩
      · exact hQ.elim
theorem ev_callv {f : Nat} {caps : List D} {x : X} {xs : List X} (hx : x.ev e = .fn f caps) (hm : md f = false) {Q : D × Hp × Nat → Prop} : Ys (evOp md (Lv xp md) e h k n (.callv x xs)) Q ↔ Ys (frzL (fun h d => frz 9 h d) h (xs.map (X.ev e) ++ caps)) fun q => Ys (callP (Lv xp md) f q.1) fun rs =>
    if rs.all D.scalar then Q (one rs, h, n) else if rs.length ≤ 8 then Q (one (takeIn q.2 k rs).1, (takeIn q.2 k rs).2, n) else False := by
  have : evOp md (Lv xp md) e h k n (.callv x xs) = evOp md (Lv xp md) e h k n (.call f (xs ++ caps.map X.c)) := by
    unfold evOp
    simp only [isCall, if_true, target, hx, Option.bind_some, hm, List.map_append, List.map_map]
    have : caps.map (X.ev e ∘ X.c) = caps := by
      rw [show (X.ev e ∘ X.c) = id from rfl]; simp
    rw [this]
  rw [this, ev_call hm]
  simp only [List.map_append, List.map_map]
  have : caps.map (X.ev e ∘ X.c) = caps := by
    rw [show (X.ev e ∘ X.c) = id from rfl]; simp
  rw [this]
theorem ev_callE {f : Nat} {caps : List D} {x : X} {xs : List X} (hx : x.ev e = .fn f caps) (hm : md f = true) {Q : D × Hp × Nat → Prop} : Ys (evOp md (Lv xp md) e h k n (.callv x xs)) Q ↔ Ys (Lv xp md f (xs.map (X.ev e) ++ caps) h n) fun r => Q (one r.1, r.2.1, r.2.2) := by
  unfold evOp
  simp only [isCall, if_true, target, hx, Option.bind_some, hm, ys_bind, ys_some]
theorem ev_callM {f : Nat} {xs : List X} (hm : md f = true) {Q : D × Hp × Nat → Prop} : Ys (evOp md (Lv xp md) e h k n (.call f xs)) Q ↔ Ys (Lv xp md f (xs.map (X.ev e)) h n) fun r => Q (one r.1, r.2.1, r.2.2) := by
  unfold evOp
  simp only [isCall, if_true, target, Option.bind_some, hm, ys_bind, ys_some]
theorem ro_call {dst : Option Nat} {f : Nat} {xs : List X} (hm : md f = false) : RO xp md k i (⟨dst, none, .call f xs, b⟩ :: r) e h n K ↔ Ys (frzL (fun h d => frz 9 h d) h (xs.map (X.ev e))) fun q => Ys (callP (Lv xp md) f q.1) fun rs =>
    if rs.all D.scalar then RO xp md k (i + 8) r (eputO e dst (one rs)) h n K else if rs.length ≤ 8 then RO xp md k (i + 8) r (eputO e dst (one (takeIn q.2 (k + i) rs).1)) (takeIn q.2 (k + i) rs).2 n K else False := by
  rw [ro_cons]
  simp only [wantedD, ys_some, if_true]
  rw [ev_call hm]
/-- Guards. -/
theorem ro_g {dst : Option Nat} {g : Nat} {gb c : Bool} {op : XOp} (hg : e g = .bool c) : RO xp md k i (⟨dst, some (g, gb), op, b⟩ :: r) e h n K ↔ if c = gb then RO xp md k i (⟨dst, none, op, b⟩ :: r) e h n K else RO xp md k (i + 8) r (eputO e dst .und) h n K := by
  rw [ro_cons, ro_cons]
  simp only [wantedD, hg, ys_some]
  cases c <;> cases gb <;> simp
theorem ro_gu {dst : Option Nat} {g : Nat} {gb : Bool} {op : XOp} (hg : e g = .und) : RO xp md k i (⟨dst, some (g, gb), op, b⟩ :: r) e h n K ↔ RO xp md k (i + 8) r (eputO e dst .und) h n K := by
  rw [ro_cons]
  simp only [wantedD, hg, ys_some]
  simp
theorem rn_r {prs : List (Nat × Nat)} {ops : List XO} {Q : Ex → St → Prop} (hh : RO xp md k 0 ops e h (k + 8 * ops.length) fun s => Q .nrm s) : Rn xp md (.reg false prs ops) ⟨e, h, k⟩ Q := by
  obtain ⟨s', h1, h2⟩ := hh
  exact rn_reg (by simpa using h1) h2
/-! drawn regions -/
def RD (xp : Nat → Option XF) (md : Nat → Bool) (k i : Nat) (fr : Bool) (l : List XO) (e : Env) (h : Hp) (n : Nat) (ts : List Tch) (K : List Tch → St → Prop) : Prop := Ys (evOpsD md (Lv xp md) (k + i) fr l ⟨e, h, n⟩) fun z => K (ts.reverse ++ z.1) z.2
variable {KD : List Tch → St → Prop} {ts : List Tch} {fr : Bool}
theorem rd_nil : RD xp md k i fr [] e h n ts KD ↔ KD ts.reverse ⟨e, h, n⟩ := by
  unfold RD
  simp only [evOpsD, ys_some, List.append_nil]
theorem rd_cons {dst : Option Nat} {g : Option (Nat × Bool)} {op : XOp} : RD xp md k i fr (⟨dst, g, op, b⟩ :: r) e h n ts KD ↔
    Ys (wantedD e g) fun w => if w then (okD md (Lv xp md) e h n op && (fr || !isMd md e op)) = true ∧ Ys (evOp md (Lv xp md) e h (k + i) n op) fun q => RD xp md k (i + 8) (fr && !isMd md e op) r (eputO e dst q.1) q.2.1 q.2.2 (touch md e h op :: ts) KD else RD xp md k (i + 8) fr r (eputO e dst .und) h n (([], []) :: ts) KD := by
  have hk : k + (i + 8) = k + i + W8 := rfl
  have hl : ∀ (t : Tch) (z : List Tch × St), KD (ts.reverse ++ (t :: z.1)) z.2 = KD ((t :: ts).reverse ++ z.1) z.2 := by intro t z; simp
  unfold RD
  simp only [evOpsD, ys_bind]
  constructor
  · rintro ⟨w, hw, q⟩
    refine ⟨w, hw, ?_⟩
    cases w with
    | true =>
      simp only [if_true] at q ⊢
      split at q
      · rename_i hok
        refine ⟨hok, ?_⟩
        simp only [ys_bind, ys_some] at q
        simpa only [hl, hk] using q
      · obtain ⟨_, h, _⟩ := q; cases h
    | false =>
      simp only [Bool.false_eq_true, if_false] at q ⊢
      simp only [ys_bind, ys_some] at q
      simpa only [hl, hk] using q
  · rintro ⟨w, hw, q⟩
    refine ⟨w, hw, ?_⟩
    cases w with
    | true =>
      simp only [if_true] at q ⊢
      obtain ⟨hok, q⟩ := q
      rw [if_pos hok]
      simp only [ys_bind, ys_some]
      simpa only [hl, hk] using q
    | false =>
      simp only [Bool.false_eq_true, if_false] at q ⊢
      simp only [ys_bind, ys_some]
      simpa only [hl, hk] using q
theorem isMd_p {op : XOp} (hc : isCall op = false) : isMd md e op = false := by cases op <;> first | rfl | cases hc
theorem rd_p {dst : Option Nat} {op : XOp} (hc : isCall op = false) : RD xp md k i fr (⟨dst, none, op, b⟩ :: r) e h n ts KD ↔ okD md (Lv xp md) e h n op = true ∧ Ys (evP e h (k + i) op) fun q => RD xp md k (i + 8) fr r (eputO e dst q.1) q.2 n (touch md e h op :: ts) KD := by
  rw [rd_cons, isMd_p hc]
  simp only [wantedD, ys_some, if_true, Bool.not_false, Bool.or_true, Bool.and_true]
  unfold evOp
  simp only [hc, Bool.false_eq_true, if_false, ys_bind, ys_some]
theorem rd_call {dst : Option Nat} {f : Nat} {xs : List X} (hm : md f = false) : RD xp md k i fr (⟨dst, none, .call f xs, b⟩ :: r) e h n ts KD ↔ okD md (Lv xp md) e h n (.call f xs) = true ∧ Ys (frzL (fun h d => frz 9 h d) h (xs.map (X.ev e))) fun q => Ys (callP (Lv xp md) f q.1) fun rs =>
    if rs.all D.scalar then RD xp md k (i + 8) fr r (eputO e dst (one rs)) h n (touch md e h (.call f xs) :: ts) KD else if rs.length ≤ 8 then RD xp md k (i + 8) fr r (eputO e dst (one (takeIn q.2 (k + i) rs).1)) (takeIn q.2 (k + i) rs).2 n (touch md e h (.call f xs) :: ts) KD else False := by
  have hi : isMd md e (.call f xs) = false := hm
  rw [rd_cons, hi]
  simp only [wantedD, ys_some, if_true, Bool.not_false, Bool.or_true, Bool.and_true]
  rw [ev_call hm]
/-- A call on the caller's own blocks: the one of its region. -/
theorem rd_callm {dst : Option Nat} {f : Nat} {xs : List X} (hm : md f = true) : RD xp md k i true (⟨dst, none, .call f xs, b⟩ :: r) e h n ts KD ↔ okD md (Lv xp md) e h n (.call f xs) = true ∧ Ys (Lv xp md f (xs.map (X.ev e)) h n) fun q => RD xp md k (i + 8) false r (eputO e dst (one q.1)) q.2.1 q.2.2 (([], nmL h (xs.map (X.ev e))) :: ts) KD := by
  have hi : isMd md e (.call f xs) = true := hm
  have ht : touch md e h (.call f xs) = ([], nmL h (xs.map (X.ev e))) := by show tchC md h f _ = _; unfold tchC rdr; rw [hm]; rfl
  rw [rd_cons, hi, ht]
  simp only [wantedD, ys_some, if_true, Bool.not_true, Bool.true_or, Bool.and_true, Bool.and_false]
  unfold evOp
  simp only [isCall, if_true, target, Option.bind_some, hm, ys_bind, ys_some]
theorem rd_g {dst : Option Nat} {g : Nat} {gb c : Bool} {op : XOp} (hg : e g = .bool c) : RD xp md k i fr (⟨dst, some (g, gb), op, b⟩ :: r) e h n ts KD ↔ if c = gb then RD xp md k i fr (⟨dst, none, op, b⟩ :: r) e h n ts KD else RD xp md k (i + 8) fr r (eputO e dst .und) h n (([], []) :: ts) KD := by
  rw [rd_cons, rd_cons]
  simp only [wantedD, hg, ys_some]
  cases c <;> cases gb <;> simp
theorem rd_gu {dst : Option Nat} {g : Nat} {gb : Bool} {op : XOp} (hg : e g = .und) : RD xp md k i fr (⟨dst, some (g, gb), op, b⟩ :: r) e h n ts KD ↔ RD xp md k (i + 8) fr r (eputO e dst .und) h n (([], []) :: ts) KD := by
  rw [rd_cons]
  simp only [wantedD, hg, ys_some]
  simp
theorem rn_d {prs : List (Nat × Nat)} {ops : List XO} {Q : Ex → St → Prop} (hh : RD xp md k 0 true ops e h (k + 8 * ops.length) [] fun ts s => prsOk ts prs = true ∧ Q .nrm s) : Rn xp md (.reg true prs ops) ⟨e, h, k⟩ Q := by
  obtain ⟨z, h1, h2, h3⟩ := hh
  exact rn_regD (by simpa using h1) (by simpa using h2) h3
theorem apartT_rr {a b : List Nat} : apartT (a, []) (b, []) = true := by simp [apartT]
theorem apartT_l {t : Tch} : apartT ([], []) t = true := by simp [apartT]
theorem apartT_rl {t : Tch} : apartT t ([], []) = true := by simp [apartT]
theorem apartT_rw {a b : Nat} (h : a ≠ b) : apartT ([a], []) ([], [b]) = true := by simp [apartT]; omega
theorem apartT_wr {a b : Nat} (h : a ≠ b) : apartT ([], [a]) ([b], []) = true := by simp [apartT]; omega
theorem apartT_ww {a b : Nat} (h : a ≠ b) : apartT ([], [a]) ([], [b]) = true := by simp [apartT]; omega
theorem prsOk_nil {ts : List Tch} : prsOk ts [] = true := rfl
theorem prsOk_cons {ts : List Tch} {p : Nat × Nat} {l : List (Nat × Nat)} : prsOk ts (p :: l) = (apartT (ts.getD p.1 ([], [])) (ts.getD p.2 ([], [])) && prsOk ts l) := rfl
/-! reading -/
theorem eput_at (e : Env) (k : Nat) (d : D) (j : Nat) : eput e k d j = if j = k then d else e j := rfl
theorem wrapN {n : Int} (h1 : -9223372036854775808 ≤ n) (h2 : n < 9223372036854775808) : IntKind.i64.wrap n = n := by
  simp only [IntKind.wrap, show IntKind.i64.bits = 64 from rfl, show IntKind.i64.signed = true from rfl, Bool.true_and, decide_eq_true_eq]
  split <;> omega
end
end Go.Proofs.Ytbpccdengeakgaa.AE
