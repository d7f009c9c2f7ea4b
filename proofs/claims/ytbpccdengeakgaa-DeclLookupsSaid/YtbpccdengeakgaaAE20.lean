/-
  AE, part 20: more steps change nothing; the calls without a bound of steps.
-/
import Derived.Test.YtbpccdengeakgaaAE19
set_option linter.unusedVariables false
set_option linter.unusedSimpArgs false
namespace Go.Proofs.Ytbpccdengeakgaa.AE
open Go Go.RowKit
def CLe (C C' : Calls1) : Prop := ∀ f a h k r, C f a h k = some r → C' f a h k = some r
theorem CLe.refl (C : Calls1) : CLe C C := fun _ _ _ _ _ h => h
/-- What is finite in its calls: more calls, the same; what holds of the limit holds early. -/
structure Con (cs : Nat → Calls1) (L : Calls1) {α : Type} (F : Calls1 → Option α) : Prop where
  mo : ∀ C C', CLe C C' → ∀ r, F C = some r → F C' = some r
  co : ∀ r, F L = some r → ∃ m, F (cs m) = some r
structure Chain (cs : Nat → Calls1) (L : Calls1) : Prop where
  up : ∀ i j, i ≤ j → CLe (cs i) (cs j)
  lim : ∀ f a h k r, L f a h k = some r → ∃ m, cs m f a h k = some r
section
variable {cs : Nat → Calls1} {L : Calls1} {α β : Type} {md : Nat → Bool}
theorem Con.const (x : Option α) : Con cs L (fun _ => x) := ⟨fun _ _ _ _ h => h, fun _ h => ⟨0, h⟩⟩
theorem Con.bind (hc : Chain cs L) {F : Calls1 → Option α} {G : α → Calls1 → Option β} (hF : Con cs L F) (hG : ∀ a, Con cs L (G a)) : Con cs L (fun C => (F C).bind fun a => G a C) := by
  constructor
  · intro C C' h r hr
    simp only [Option.bind_eq_some_iff] at hr ⊢
    obtain ⟨a, ha, hr⟩ := hr
    exact ⟨a, hF.mo C C' h a ha, (hG a).mo C C' h r hr⟩
  · intro r hr
    simp only [Option.bind_eq_some_iff] at hr ⊢
    obtain ⟨a, ha, hr⟩ := hr
    obtain ⟨m1, h1⟩ := hF.co a ha
    obtain ⟨m2, h2⟩ := (hG a).co r hr
    exact ⟨max m1 m2, a, hF.mo _ _ (hc.up m1 _ (Nat.le_max_left _ _)) a h1, (hG a).mo _ _ (hc.up m2 _ (Nat.le_max_right _ _)) r h2⟩
theorem Con.ite {c : Prop} [Decidable c] {F G : Calls1 → Option α} (hF : Con cs L F) (hG : Con cs L G) : Con cs L (fun C => if c then F C else G C) := by
  by_cases h : c
  · simp only [if_pos h]; exact hF
  · simp only [if_neg h]; exact hG
theorem Con.iteB (hc : Chain cs L) {b : Calls1 → Bool} (hb1 : ∀ C C', CLe C C' → b C = true → b C' = true) (hb2 : b L = true → ∃ m, b (cs m) = true) {F : Calls1 → Option α} (hF : Con cs L F) : Con cs L (fun C => if b C then F C else none) := by
  constructor
  · intro C C' h r hr
    split at hr
    · rename_i hb
      simp only [hb1 C C' h hb, if_true]
      exact hF.mo C C' h r hr
    · cases hr
  · intro r hr
    split at hr
    · rename_i hb
      obtain ⟨m1, h1⟩ := hb2 hb
      obtain ⟨m2, h2⟩ := hF.co r hr
      refine ⟨max m1 m2, ?_⟩
      simp only [hb1 _ _ (hc.up m1 _ (Nat.le_max_left _ _)) h1, if_true]
      exact hF.mo _ _ (hc.up m2 _ (Nat.le_max_right _ _)) r h2
    · cases hr
theorem Con.calls (hc : Chain cs L) (f : Nat) (a : List D) (h : Hp) (k : Nat) : Con cs L (fun C => C f a h k) := ⟨fun _ _ h r hr => h _ _ _ _ _ hr, fun r hr => hc.lim _ _ _ _ _ hr⟩
theorem con_callP (hc : Chain cs L) (f : Nat) (a : List D) : Con cs L (fun C => callP C f a) := Con.bind hc (Con.calls hc _ _ _ _) fun _ => Con.const _
theorem con_evOp (hc : Chain cs L) (e : Env) (h : Hp) (k n : Nat) (o : XOp) : Con cs L (fun C => evOp md C e h k n o) := by
  unfold evOp
  refine Con.ite (Con.bind hc (Con.const _) fun t => Con.ite (Con.bind hc (Con.calls hc _ _ _ _) fun _ => Con.const _) (Con.bind hc (Con.const _) fun q => Con.bind hc (con_callP hc _ _) fun r => Con.const _)) (Con.const _)
theorem okCall_con (hc : Chain cs L) (h : Hp) (n f : Nat) (A : List D) : (∀ C C', CLe C C' → okCall md C h n f A = true → okCall md C' h n f A = true) ∧ (okCall md L h n f A = true → ∃ m, okCall md (cs m) h n f A = true) := by
  have G : Con cs L (fun C => (frzL (fun h d => frz 9 h d) h A).bind fun q => callP C f q.1) := Con.bind hc (Con.const _) fun q => con_callP hc _ _
  have G2 : Con cs L (fun C => C f A (restr h (nmL h A) n) n) := Con.calls hc _ _ _ _
  unfold okCall
  cases hm : md f with
  | true =>
    simp only [if_true, Bool.and_eq_true]
    constructor
    · intro C C' hC hb
      obtain ⟨r, hr⟩ := Option.isSome_iff_exists.1 hb.2
      exact ⟨hb.1, Option.isSome_iff_exists.2 ⟨r, G2.mo C C' hC r hr⟩⟩
    · intro hb
      obtain ⟨r, hr⟩ := Option.isSome_iff_exists.1 hb.2
      obtain ⟨m, hm⟩ := G2.co r hr
      exact ⟨m, hb.1, Option.isSome_iff_exists.2 ⟨r, hm⟩⟩
  | false =>
    simp only [Bool.false_eq_true, if_false]
    cases rdr md f with
    | false =>
      simp only [Bool.false_eq_true, if_false]
      exact ⟨fun _ _ _ h => h, fun h => ⟨0, h⟩⟩
    | true =>
      simp only [if_true, Bool.and_eq_true, Option.any_eq_true]
      constructor
      · intro C C' hC hb
        obtain ⟨r, hr, hs⟩ := hb.2
        exact ⟨hb.1, r, G.mo C C' hC r hr, hs⟩
      · intro hb
        obtain ⟨r, hr, hs⟩ := hb.2
        obtain ⟨m, hm⟩ := G.co r hr
        exact ⟨m, hb.1, r, hm, hs⟩
theorem okD_con (hc : Chain cs L) (e : Env) (h : Hp) (n : Nat) (o : XOp) : (∀ C C', CLe C C' → okD md C e h n o = true → okD md C' e h n o = true) ∧ (okD md L e h n o = true → ∃ m, okD md (cs m) e h n o = true) := by
  cases o
  case call f xs => exact okCall_con hc h n f _
  case callv x xs =>
    simp only [okD]
    split
    · exact okCall_con hc h n _ _
    · exact ⟨fun _ _ _ h => h, fun h => ⟨0, h⟩⟩
  all_goals exact ⟨fun _ _ _ h => h, fun h => ⟨0, h⟩⟩
theorem okDf_con (hc : Chain cs L) (e : Env) (h : Hp) (n : Nat) (o : XOp) (b : Bool) : (∀ C C', CLe C C' → (okD md C e h n o && b) = true → (okD md C' e h n o && b) = true) ∧ ((okD md L e h n o && b) = true → ∃ m, (okD md (cs m) e h n o && b) = true) := by
  obtain ⟨h1, h2⟩ := okD_con (md := md) hc e h n o
  simp only [Bool.and_eq_true]
  refine ⟨fun C C' hC hb => ⟨h1 C C' hC hb.1, hb.2⟩, fun hb => ?_⟩
  obtain ⟨m, hm⟩ := h2 hb.1
  exact ⟨m, hm, hb.2⟩
theorem con_evOps (hc : Chain cs L) : ∀ (l : List XO) (k : Nat) (s : St), Con cs L (fun C => evOps md C k l s)
  | [], k, s => Con.const _
  | o :: r, k, s => by
    simp only [evOps]
    exact Con.bind hc (Con.const _) fun w => Con.ite (Con.bind hc (con_evOp hc _ _ _ _ _) fun q => con_evOps hc r _ _) (con_evOps hc r _ _)
theorem con_evOpsD (hc : Chain cs L) : ∀ (l : List XO) (k : Nat) (fr : Bool) (s : St), Con cs L (fun C => evOpsD md C k fr l s)
  | [], k, fr, s => Con.const _
  | o :: r, k, fr, s => by
    simp only [evOpsD]
    exact Con.bind hc (Con.const _) fun w => Con.ite (Con.iteB hc (okDf_con hc _ _ _ _ _).1 (okDf_con hc _ _ _ _ _).2 (Con.bind hc (con_evOp hc _ _ _ _ _) fun q => Con.bind hc (con_evOpsD hc r _ _ _) fun _ => Con.const _)) (Con.bind hc (con_evOpsD hc r _ _ _) fun _ => Con.const _)
theorem con_iter (hc : Chain cs L) {f : St → Calls1 → Option (Ex × St)} (hf : ∀ s, Con cs L (f s)) : ∀ (n : Nat) (s : St), Con cs L (fun C => iter (fun s => f s C) n s)
  | 0, s => Con.const _
  | n + 1, s => by
    simp only [iter]
    refine Con.bind hc (hf s) fun r => ?_
    obtain ⟨x, s1⟩ := r
    cases x with
    | nrm => exact con_iter hc hf n _
    | exit i => exact Con.const _
    | ret => exact Con.const _
theorem con_evC (hc : Chain cs L) (n : Nat) : ∀ (x : XC) (s : St), Con cs L (fun C => evC md C n x s)
  | .skip, s => Con.const _
  | .exit _, s => Con.const _
  | .ret, s => Con.const _
  | .reg draw prs ops, s => by
    simp only [evC]
    exact Con.ite (Con.bind hc (con_evOpsD hc _ _ _ _) fun _ => Con.const _) (Con.bind hc (con_evOps hc _ _ _) fun _ => Con.const _)
  | .seq a b, s => by
    simp only [evC]
    refine Con.bind hc (con_evC hc n a s) fun r => ?_
    obtain ⟨x, s1⟩ := r
    cases x with
    | nrm => exact con_evC hc n b _
    | exit i => exact Con.const _
    | ret => exact Con.const _
  | .cond x a b, s => by
    simp only [evC]
    exact Con.bind hc (Con.const _) fun t => Con.ite (con_evC hc n a s) (con_evC hc n b s)
  | .blk id a, s => by
    simp only [evC]
    exact Con.bind hc (con_evC hc n a s) fun r => Con.const _
  | .loop a, s => by
    simp only [evC]
    exact con_iter hc (fun s => con_evC hc n a s) n s
end
theorem evC_more (md : Nat → Bool) {C C' : Calls1} (h : CLe C C') {n : Nat} {x : XC} {s : St} {r : Ex × St} (he : evC md C n x s = some r) : evC md C' n x s = some r :=
  (con_evC (cs := fun _ => C) (L := C) ⟨fun _ _ _ => CLe.refl _, fun _ _ _ _ _ h => ⟨0, h⟩⟩ n x s).mo C C' h r he
theorem iter_more {f g : St → Option (Ex × St)} (hfg : ∀ s r, f s = some r → g s = some r) : ∀ (n n' : Nat) (s : St) (r : Ex × St), n ≤ n' → iter f n s = some r → iter g n' s = some r
  | 0, _, _, _, _, h => by cases h
  | n + 1, 0, _, _, hn, _ => by omega
  | n + 1, n' + 1, s, r, hn, h => by
    simp only [iter, Option.bind_eq_some_iff] at h ⊢
    obtain ⟨r1, hr1, h⟩ := h
    refine ⟨r1, hfg s r1 hr1, ?_⟩
    obtain ⟨x, s1⟩ := r1
    cases x with
    | nrm => exact iter_more hfg n n' s1 r (by omega) h
    | exit i => exact h
    | ret => exact h
theorem evC_fuel {md : Nat → Bool} {C : Calls1} {n n' : Nat} (hn : n ≤ n') : ∀ (x : XC) (s : St) (r : Ex × St), evC md C n x s = some r → evC md C n' x s = some r
  | .skip, s, r, h => h
  | .exit _, s, r, h => h
  | .ret, s, r, h => h
  | .reg draw prs ops, s, r, h => h
  | .seq a b, s, r, h => by
    simp only [evC, Option.bind_eq_some_iff] at h ⊢
    obtain ⟨r1, h1, h⟩ := h
    refine ⟨r1, evC_fuel hn a s r1 h1, ?_⟩
    obtain ⟨x, s1⟩ := r1
    cases x with
    | nrm => exact evC_fuel hn b s1 r h
    | exit i => exact h
    | ret => exact h
  | .cond x a b, s, r, h => by
    simp only [evC, Option.bind_eq_some_iff] at h ⊢
    obtain ⟨t, ht, h⟩ := h
    refine ⟨t, ht, ?_⟩
    cases t with
    | true => simp only [if_true] at h ⊢; exact evC_fuel hn a s r h
    | false => simp only [Bool.false_eq_true, if_false] at h ⊢; exact evC_fuel hn b s r h
  | .blk id a, s, r, h => by
    simp only [evC, Option.bind_eq_some_iff] at h ⊢
    obtain ⟨r1, h1, h⟩ := h
    exact ⟨r1, evC_fuel hn a s r1 h1, h⟩
  | .loop a, s, r, h => by
    simp only [evC] at h ⊢
    exact iter_more (fun s r h => evC_fuel hn a s r h) n n' s r hn h
section
variable {xp : Nat → Option XF} {md : Nat → Bool}
theorem runF_step : ∀ n, CLe (runF xp md n) (runF xp md (n + 1))
  | 0 => fun _ _ _ _ _ h => by cases h
  | n + 1 => by
    intro f a h k r hr
    rw [runF] at hr ⊢
    simp only [Option.bind_eq_some_iff] at hr ⊢
    obtain ⟨F, hF, hr⟩ := hr
    refine ⟨F, hF, ?_⟩
    split at hr
    · cases hr
    · rename_i hl
      rw [if_neg hl]
      simp only [Option.bind_eq_some_iff] at hr ⊢
      obtain ⟨r1, h1, hr⟩ := hr
      exact ⟨r1, evC_fuel (Nat.le_succ n) _ _ _ (evC_more md (runF_step n) h1), hr⟩
theorem runF_up : ∀ (i j : Nat), i ≤ j → CLe (runF xp md i) (runF xp md j)
  | i, j, h => by
    induction h with
    | refl => exact CLe.refl _
    | step _ ih => exact fun f a h k r hr => runF_step _ f a h k r (ih f a h k r hr)
open Classical in
/-- The calls, however many steps they take. -/
noncomputable def Lv (xp : Nat → Option XF) (md : Nat → Bool) : Calls1 := fun f a h k => if p : ∃ r : List D × Hp × Nat, ∃ n, runF xp md n f a h k = some r then some p.choose else none
theorem Lv_of {n f : Nat} {a : List D} {h : Hp} {k : Nat} {r : List D × Hp × Nat} (hr : runF xp md n f a h k = some r) : Lv xp md f a h k = some r := by
  unfold Lv
  have p : ∃ r : List D × Hp × Nat, ∃ n, runF xp md n f a h k = some r := ⟨r, n, hr⟩
  rw [dif_pos p]
  obtain ⟨m, hm⟩ := p.choose_spec
  have h1 := runF_up n (max n m) (Nat.le_max_left _ _) f a h k r hr
  have h2 := runF_up m (max n m) (Nat.le_max_right _ _) f a h k _ hm
  rw [h1] at h2
  exact h2.symm
theorem lvChain (xp : Nat → Option XF) (md : Nat → Bool) : Chain (runF xp md) (Lv xp md) := by
  refine ⟨runF_up, fun f a h k r hr => ?_⟩
  unfold Lv at hr
  split at hr
  · rename_i p
    obtain rfl := Option.some.inj hr
    exact p.choose_spec
  · cases hr
/-- A run of code. -/
def Rn (xp : Nat → Option XF) (md : Nat → Bool) (x : XC) (s : St) (Q : Ex → St → Prop) : Prop := ∃ n r, evC md (Lv xp md) n x s = some r ∧ Q r.1 r.2
theorem Lv_intro {f : Nat} {F : XF} {a ds : List D} {h h' : Hp} {k k' : Nat} (hF : xp f = some F) (ha : a.length ≤ F.nt)
    (hr : Rn xp md F.body ⟨envOf a, h, k⟩ (fun x s => (x = .nrm ∨ x = .ret) ∧ resOf s F.res = some ds ∧ s.h = h' ∧ s.k = k')) : Lv xp md f a h k = some (ds, h', k') := by
  obtain ⟨n, ⟨x, s⟩, he, hx, hres, rfl, rfl⟩ := hr
  obtain ⟨m, hm⟩ := (con_evC (lvChain xp md) n F.body _).co _ he
  have h1 := evC_fuel (Nat.le_max_left n m) _ _ _ (evC_more md (runF_up m _ (Nat.le_max_right n m)) hm)
  refine Lv_of (n := max n m + 1) ?_
  simp only [runF, hF, Option.bind_some]
  rw [if_neg (by omega), h1]
  simp only [Option.bind_some]
  rcases hx with rfl | rfl <;> simp only [hres, Option.bind_some]
theorem Fv_intro {f : Nat} {F : XF} {a res : List D} (hF : xp f = some F) (ha : a.length ≤ F.nt)
    (hr : Rn xp md F.body ⟨envOf a, fun _ => .no, 0⟩ (fun x s => (x = .nrm ∨ x = .ret) ∧ ((resOf s F.res).bind fun ds => retL s.h ds) = some res)) : callP (Lv xp md) f a = some res := by
  obtain ⟨n, ⟨x, s⟩, he, hx, hres⟩ := hr
  simp only [Option.bind_eq_some_iff] at hres
  obtain ⟨ds, hds, hret⟩ := hres
  have := Lv_intro (xp := xp) (md := md) (f := f) hF ha ⟨n, ⟨x, s⟩, he, hx, hds, rfl, rfl⟩
  unfold callP
  rw [this]
  exact hret
theorem Fv_of {n f : Nat} {a r : List D} (h : callP (runF xp md n) f a = some r) : callP (Lv xp md) f a = some r := by
  refine (con_callP (cs := fun _ => runF xp md n) (L := runF xp md n) ⟨fun _ _ _ => CLe.refl _, fun _ _ _ _ _ h => ⟨0, h⟩⟩ f a).mo _ _ ?_ r h
  exact fun f a h k r hr => Lv_of hr
theorem Fv_run {f : Nat} {a r : List D} (h : callP (Lv xp md) f a = some r) : ∃ n, callP (runF xp md n) f a = some r := (con_callP (lvChain xp md) f a).co r h
variable {s : St} {Q Q' : Ex → St → Prop} {x y : XC}
theorem Rn.mono (h : Rn xp md x s Q) (hQ : ∀ e s, Q e s → Q' e s) : Rn xp md x s Q' := by
  obtain ⟨n, r, h1, h2⟩ := h
  exact ⟨n, r, h1, hQ _ _ h2⟩
theorem rn_skip (h : Q .nrm s) : Rn xp md .skip s Q := ⟨0, (.nrm, s), rfl, h⟩
theorem rn_ret (h : Q .ret s) : Rn xp md .ret s Q := ⟨0, (.ret, s), rfl, h⟩
theorem rn_exit {i : Nat} (h : Q (.exit i) s) : Rn xp md (.exit i) s Q := ⟨0, (.exit i, s), rfl, h⟩
/-- On, if the first part ran to its end. -/
def Nx (Q : Ex → St → Prop) (K : St → Prop) : Ex → St → Prop
  | .nrm, s => K s
  | .exit i, s => Q (.exit i) s
  | .ret, s => Q .ret s
theorem rn_seq (h : Rn xp md x s (Nx Q fun s => Rn xp md y s Q)) : Rn xp md (.seq x y) s Q := by
  obtain ⟨n, ⟨ex, s1⟩, h1, h2⟩ := h
  cases ex with
  | nrm =>
    obtain ⟨m, r, h3, h4⟩ := h2
    refine ⟨max n m, r, ?_, h4⟩
    simp only [evC, evC_fuel (Nat.le_max_left n m) _ _ _ h1, Option.bind_some]
    exact evC_fuel (Nat.le_max_right n m) _ _ _ h3
  | exit i => exact ⟨n, (.exit i, s1), by simp only [evC, h1, Option.bind_some], h2⟩
  | ret => exact ⟨n, (.ret, s1), by simp only [evC, h1, Option.bind_some], h2⟩
theorem rn_cond {c : X} {t : Bool} (ht : c.ev s.e = .bool t) (h : if t then Rn xp md x s Q else Rn xp md y s Q) : Rn xp md (.cond c x y) s Q := by
  cases t with
  | true => obtain ⟨n, r, h1, h2⟩ := h; exact ⟨n, r, by simp only [evC, ht, asB, Option.bind_some, if_true]; exact h1, h2⟩
  | false => obtain ⟨n, r, h1, h2⟩ := h; exact ⟨n, r, by simp only [evC, ht, asB, Option.bind_some, Bool.false_eq_true, if_false]; exact h1, h2⟩
def Bk (id : Nat) (Q : Ex → St → Prop) : Ex → St → Prop
  | .nrm, s => Q .nrm s
  | .exit i, s => if i = id then Q .nrm s else Q (.exit i) s
  | .ret, s => Q .ret s
theorem rn_blk {id : Nat} (h : Rn xp md x s (Bk id Q)) : Rn xp md (.blk id x) s Q := by
  obtain ⟨n, ⟨ex, s1⟩, h1, h2⟩ := h
  cases ex with
  | nrm => exact ⟨n, (.nrm, s1), by simp only [evC, h1, Option.bind_some], h2⟩
  | ret => exact ⟨n, (.ret, s1), by simp only [evC, h1, Option.bind_some], h2⟩
  | exit i =>
    simp only [Bk] at h2
    by_cases hi : i = id
    · rw [if_pos hi] at h2
      exact ⟨n, (.nrm, s1), by simp only [evC, h1, Option.bind_some]; rw [if_pos hi], h2⟩
    · rw [if_neg hi] at h2
      exact ⟨n, (.exit i, s1), by simp only [evC, h1, Option.bind_some]; rw [if_neg hi], h2⟩
theorem rn_reg {prs : List (Nat × Nat)} {ops : List XO} {s' : St} (he : evOps md (Lv xp md) s.k ops ⟨s.e, s.h, s.k + W8 * ops.length⟩ = some s') (h : Q .nrm s') : Rn xp md (.reg false prs ops) s Q :=
  ⟨0, (.nrm, s'), by simp only [evC, he, Bool.false_eq_true, if_false, Option.bind_some], h⟩
theorem rn_regD {prs : List (Nat × Nat)} {ops : List XO} {z : List Tch × St} (he : evOpsD md (Lv xp md) s.k true ops ⟨s.e, s.h, s.k + W8 * ops.length⟩ = some z) (hp : prsOk z.1 prs = true) (h : Q .nrm z.2) : Rn xp md (.reg true prs ops) s Q :=
  ⟨0, (.nrm, z.2), by simp only [evC, he, if_true, Option.bind_some, hp], h⟩
/-- One round, then the rest. -/
theorem rn_round (h : Rn xp md x s (Nx Q fun s => Rn xp md (.loop x) s Q)) : Rn xp md (.loop x) s Q := by
  obtain ⟨n, ⟨ex, s1⟩, h1, h2⟩ := h
  cases ex with
  | nrm =>
    obtain ⟨m, r, h3, h4⟩ := h2
    refine ⟨max n m + 1, r, ?_, h4⟩
    simp only [evC] at h3 ⊢
    simp only [iter, evC_fuel (show n ≤ max n m + 1 by omega) _ _ _ h1, Option.bind_some]
    exact iter_more (fun s r h => evC_fuel (show m ≤ max n m + 1 by omega) _ _ _ h) m (max n m) s1 r (by omega) h3
  | exit i => exact ⟨n + 1, (.exit i, s1), by simp only [evC, iter, evC_fuel (Nat.le_succ n) _ _ _ h1, Option.bind_some], h2⟩
  | ret => exact ⟨n + 1, (.ret, s1), by simp only [evC, iter, evC_fuel (Nat.le_succ n) _ _ _ h1, Option.bind_some], h2⟩
/-- A loop: I says what holds at the start of round j; at most N rounds. -/
theorem rn_loop (N : Nat) (I : Nat → St → Prop) {j : Nat} (h0 : I j s) (hj : j ≤ N) (hr : ∀ j s, j ≤ N → I j s → Rn xp md x s (Nx Q fun s' => j < N ∧ I (j + 1) s')) : Rn xp md (.loop x) s Q := by
  obtain ⟨d, hd⟩ : ∃ d, N = j + d := ⟨N - j, by omega⟩
  induction d generalizing j s with
  | zero =>
    refine rn_round ((hr j s hj h0).mono ?_)
    intro e s h
    cases e with
    | nrm => have := h.1; omega
    | exit i => exact h
    | ret => exact h
  | succ d ih =>
    refine rn_round ((hr j s hj h0).mono ?_)
    intro e s h
    cases e with
    | nrm => exact ih h.2 (by have := h.1; omega) (by omega)
    | exit i => exact h
    | ret => exact h
end
end Go.Proofs.Ytbpccdengeakgaa.AE
