/-
  AE, part 15: regions, code, functions.
-/
import Derived.Test.YtpdamhhaepcffaaMA
set_option linter.unusedVariables false
set_option linter.unusedSimpArgs false
namespace Go.Proofs.Ytpdamhhaepcffaa.AE
open Go Go.RowKit
def cG (ops : Array Oper) : Option (Nat × Bool) → Option (Option (Nat × Bool))
  | none => some none
  | some (j, b) => ((ops[j]?).bind (·.dst)).bind fun t => some (some (t, b))
def befs (o : Oper) : List Nat := (o.after.toList.filter (Region.binds .any)).map (·.on)
def dstOk (N : Nat) : Option Nat → Bool
  | none => true
  | some t => decide (t < N)
def cOper (P : Program) (dr : Bool) (ops : Array Oper) (N : Nat) (o : Oper) : Option XO := (cOp P dr o.op).bind fun xo => (cG ops o.guard).bind fun g => if dstOk N o.dst then some ⟨o.dst, g, xo, befs o⟩ else none
def cOps (P : Program) (dr : Bool) (ops : Array Oper) (N : Nat) : List Oper → Option (List XO)
  | [] => some []
  | o :: r => (cOper P dr ops N o).bind fun x => (cOps P dr ops N r).bind fun q => some (x :: q)
def cCode (P : Program) (N : Nat) : Code → Option XC
  | .skip => some .skip
  | .region _ ops draw => (cOps P draw ops N ops.toList).bind fun xs => if draw then (if statD xs then some (.reg true (mkPrs xs) xs) else none) else some (.reg false [] xs)
  | .seq a b => (cCode P N a).bind fun x => (cCode P N b).bind fun y => some (.seq x y)
  | .cond c a b => (cX c).bind fun c => (cCode P N a).bind fun x => (cCode P N b).bind fun y => some (.cond c x y)
  | .block id a => (cCode P N a).bind fun x => some (.blk id x)
  | .loop a => (cCode P N a).bind fun x => some (.loop x)
  | .exit id => some (.exit id)
  | .ret => some .ret
  | _ => none
def cRes (P : Program) : List ResultVar → Option (List (Nat × Option (Nat × Bool)))
  | [] => some []
  | .tmp t :: r => (cRes P r).bind fun q => some ((t, none) :: q)
  | .cell a t :: r => (szT P t).bind fun n => (agT P t).bind fun ag => (cRes P r).bind fun q => some ((a, some (n, ag)) :: q)
def cFn (P : Program) (fn : Func) : Option XF := fn.body.bind fun c => if fn.name == "runtime.NumGoroutine" then none else (cCode P fn.ntmps c).bind fun b => (cRes P fn.results.toList).bind fun r => some ⟨fn.ntmps, b, r⟩

section
variable {P : Program} {B : Nat} {w0 w w' : World} {I I' : Nat → Prop} {μ μ' : Mu} {h h' : Hp} {e : Env} {d d' : D} {v : Value} {k n n' N : Nat} {C : Calls1} {md : Nat → Bool} {a : Act}
theorem getD_some {ts : Array Value} {t : Nat} {v : Value} (h : ts.getD t undef = v) (hv : v ≠ undef) : ts[t]? = some v := by
  rw [Array.getD_eq_getD_getElem?] at h
  cases hq : ts[t]? with
  | none => rw [hq] at h; exact absurd h.symm hv
  | some u => rw [hq] at h; exact congrArg some h
theorem wanted_ok (he : EnvOk w I μ e a.tmps) {ops : Array Oper} {o : Oper} {g : Option (Nat × Bool)} (hg : cG ops o.guard = some g) {b : Bool} (hw : wantedD e g = some b) : Region.wanted o (yielded ops a.tmps) = b := by
  cases hgd : o.guard with
  | none =>
    rw [hgd] at hg
    obtain rfl := Option.some.inj hg
    have : b = true := by simpa [wantedD] using hw.symm
    subst this
    simp [Region.wanted, hgd]
  | some p =>
    obtain ⟨j, b0⟩ := p
    rw [hgd] at hg
    simp only [cG, Option.bind_eq_some_iff, Option.some.injEq] at hg
    obtain ⟨t, ht, rfl⟩ := hg
    simp only [wantedD] at hw
    have hr := he t
    have hb : (ops[j]?).bind (·.dst) = some t := by simpa [Option.bind_eq_some_iff] using ht
    split at hw
    · rename_i c hc
      obtain rfl := Option.some.inj hw
      rw [hc] at hr
      have h1 := getD_some hr.bool_inv (by simp [undef])
      simp [Region.wanted, hgd, yielded, hb, h1]
    · rename_i hc
      obtain rfl := Option.some.inj hw
      rw [hc] at hr
      have h1 : a.tmps.getD t undef = undef := by
        generalize a.tmps.getD t undef = u at hr
        cases hr with | im hm => cases hm; rfl
      have h2 : yielded ops a.tmps j = none := by
        simp only [yielded, hb, Option.bind_some]
        rw [Array.getD_eq_getD_getElem?] at h1
        cases hq : a.tmps[t]? with
        | none => rfl
        | some u => rw [hq] at h1; simp only [Option.getD_some] at h1; subst h1; rfl
      simp [Region.wanted, hgd, h2]
    · cases hw
theorem EnvOk.put (he : EnvOk w I μ e a.tmps) {dst : Option Nat} (hv : Rp w I μ d v) (hd : dstOk a.tmps.size dst = true) : EnvOk w I μ (eputO e dst d) (a.put dst v).tmps := by
  cases dst with
  | none => exact he
  | some t =>
    have ht : t < a.tmps.size := by simpa [dstOk] using hd
    intro j
    by_cases hj : j = t
    · subst hj
      simp only [eputO, eput_same, Act.put]
      rw [Array.getD_eq_getD_getElem?, Array.getElem?_setIfInBounds_self_of_lt ht]
      exact hv
    · simp only [eputO, Act.put]
      rw [eput_ne _ _ hj, Array.getD_eq_getD_getElem?, Array.getElem?_setIfInBounds_ne (Ne.symm hj), ← Array.getD_eq_getD_getElem?]
      exact he j
theorem EnvOk.go (g : Go1 I I' μ μ' w w') {ts : Array Value} (he : EnvOk w I μ e ts) : EnvOk w' I' μ' e ts := fun k => (he k).go g
theorem put_size (a : Act) (dst : Option Nat) (v : Value) : (a.put dst v).tmps.size = a.tmps.size := by cases dst <;> simp [Act.put]
theorem put_defers (a : Act) (dst : Option Nat) (v : Value) : (a.put dst v).defers = a.defers := by cases dst <;> rfl

/-- The state of a walk that began at I0, μ0, w1 with names below k0; k .. k + m: names kept for the rest of a region. -/
structure Sim (B : Nat) (w0 : World) (N : Nat) (I0 : Nat → Prop) (μ0 : Mu) (w1 : World) (k0 : Nat) (k m : Nat) (s : St) (a : Act) (w : World) : Prop where
  ex : ∃ I μ, EnvOk w I μ s.e a.tmps ∧ Inv B w0 I μ s.h w ∧ Go1 I0 I μ0 μ w1 w ∧ (∀ l, s.k ≤ l → μ l = none) ∧ (∀ l, l < k0 → μ0 l = none → μ l = none) ∧ k0 ≤ s.k ∧ (∀ b, I b → I0 b ∨ B ≤ b) ∧ (∀ j, k ≤ j → j < k + m → μ j = none) ∧ k + m ≤ s.k ∧ (0 < m → k0 ≤ k)
  sz : a.tmps.size = N
  df : a.defers = []
variable {I0 : Nat → Prop} {μ0 : Mu} {w1 : World} {k0 m : Nat}
theorem Sim.less {s : St} (hs : Sim B w0 N I0 μ0 w1 k0 k m s a w) : Sim B w0 N I0 μ0 w1 k0 0 0 s a w := by
  obtain ⟨⟨I, μ, h1, h2, h3, h4, h5, h6, h7, h8, h9, h10⟩, hz, hd⟩ := hs
  exact ⟨⟨I, μ, h1, h2, h3, h4, h5, h6, h7, fun j _ hj => by omega, by omega, fun hm => by omega⟩, hz, hd⟩
theorem Sim.reg {s : St} (hs : Sim B w0 N I0 μ0 w1 k0 0 0 s a w) (m : Nat) : Sim B w0 N I0 μ0 w1 k0 s.k m ⟨s.e, s.h, s.k + m⟩ a w := by
  obtain ⟨⟨I, μ, h1, h2, h3, h4, h5, h6, h7, h8, h9, h10⟩, hz, hd⟩ := hs
  exact ⟨⟨I, μ, h1, h2, h3, fun l hl => h4 l (by simp at hl; omega), h5, by simp; omega, h7, fun j hj _ => h4 j hj, Nat.le_refl _, fun _ => h6⟩, hz, hd⟩
theorem evOps_ok (HC : CallsOk P C) {dr : Bool} {ops : Array Oper} {Q : Exit → Act → World → Prop} : ∀ (l : List Oper) (xs : List XO) (k : Nat) (s s' : St) (a : Act) (w : World), cOps P dr ops N l = some xs → evOps md C k xs s = some s' → Sim B w0 N I0 μ0 w1 k0 k (W8 * xs.length) s a w →
    (∀ a' w', Sim B w0 N I0 μ0 w1 k0 0 0 s' a' w' → Q .normal a' w') → wpList P ops Q l a w
  | [], xs, k, s, s', a, w, hc, hev, hs, hQ => by
    obtain rfl := Option.some.inj hc
    simp only [evOps, Option.some.injEq] at hev
    subst hev
    exact hQ a w hs.less
  | o :: l, xs, k, s, s', a, w, hc, hev, hs, hQ => by
    have w8 : W8 = 8 := rfl
    simp only [cOps, Option.bind_eq_some_iff] at hc
    obtain ⟨x, hx, q, hq, he⟩ := hc
    obtain rfl := Option.some.inj he
    simp only [cOper, Option.bind_eq_some_iff] at hx
    obtain ⟨xo, hxo, g, hg, hx⟩ := hx
    split at hx
    · rename_i hdst
      obtain rfl := Option.some.inj hx
      simp only [evOps, Option.bind_eq_some_iff] at hev
      obtain ⟨b, hb, hev⟩ := hev
      obtain ⟨⟨I, μ, h1, h2, h3, h4, h5, h6, h7, h8, h9, h10⟩, hz, hd⟩ := hs
      have hwant := wanted_ok h1 hg hb
      have hdst' : dstOk a.tmps.size o.dst = true := by rw [hz]; exact hdst
      have hlen : W8 * (q.length + 1) = W8 + W8 * q.length := by rw [Nat.mul_succ]; omega
      simp only [List.length_cons] at h8 h9 h10
      rw [hlen] at h8 h9 h10
      cases b with
      | true =>
        simp only [if_true, Option.bind_eq_some_iff] at hev
        obtain ⟨⟨d, h', n'⟩, hop, hev⟩ := hev
        unfold wpList
        rw [if_pos hwant]
        refine .inl (evOp_ok HC h2 h1.ops hxo hop (fun j hj => h8 _ (by omega) (by omega)) h4 (by omega) ?_)
        intro v w' I' μ' r1 i1 g1 nm1 nm2 nm3 nb
        refine evOps_ok HC l q (k + W8) _ s' _ w' hq hev ⟨⟨I', μ', (h1.go g1).put r1 hdst', i1, h3.trans g1, nm2, fun l hl hl0 => ?_, by simp; omega, fun b hb => ?_, fun j hj1 hj2 => ?_, by simp; omega, fun _ => by have := h10 (by omega); omega⟩, by rw [put_size]; exact hz, by rw [put_defers]; exact hd⟩ hQ
        · exact nm1 l (h5 l hl hl0) (.inl (by have := h10 (by omega); omega)) (by omega)
        · rcases nb b hb with hb | hb
          · exact h7 b hb
          · exact .inr hb
        · exact nm1 j (h8 j (by omega) (by omega)) (.inr hj1) (by omega)
      | false =>
        simp only [Bool.false_eq_true, if_false] at hev
        unfold wpList
        rw [if_neg (by rw [hwant]; simp)]
        exact evOps_ok HC l q (k + W8) _ s' _ w hq hev ⟨⟨I, μ, h1.put (.im .und) hdst', h2, h3, h4, h5, h6, h7, fun j hj1 hj2 => h8 j (by omega) (by omega), by simp; omega, fun _ => by have := h10 (by omega); omega⟩, by rw [put_size]; exact hz, by rw [put_defers]; exact hd⟩ hQ
    · cases hx

/-- Regions whose order is drawn. -/
def DrawsOk (P : Program) (md : Nat → Bool) : Prop := ∀ (C : Calls1), CallsOk P C → ∀ (B : Nat) (w0 : World) (N : Nat) (I0 : Nat → Prop) (μ0 : Mu) (w1 : World) (k0 id : Nat) (ops : Array Oper) (xs : List XO) (s : St) (z : List (List Nat × List Nat) × St) (a : Act) (w : World) (Q : Exit → Act → World → Prop),
  cOps P true ops N ops.toList = some xs → statD xs = true → evOpsD md C s.k xs ⟨s.e, s.h, s.k + W8 * xs.length⟩ = some z → prsOk z.1 (mkPrs xs) = true → Sim B w0 N I0 μ0 w1 k0 0 0 s a w → (∀ a' w', Sim B w0 N I0 μ0 w1 k0 0 0 z.2 a' w' → Q .normal a' w') → (Code.region id ops true).wp P Q a w
/-- The exit is what AE says. -/
def PostEx : Ex → Exit → Prop
  | .nrm, .normal => True
  | .exit i, .exit j => i = j
  | .ret, .ret => True
  | _, _ => False
theorem iter_ok {c : Code} {f : St → Option (Ex × St)} (hf : ∀ s r (a : Act) w, f s = some r → Sim B w0 N I0 μ0 w1 k0 0 0 s a w → c.wp P (fun ex a w => PostEx r.1 ex ∧ Sim B w0 N I0 μ0 w1 k0 0 0 r.2 a w) a w) :
    ∀ (n : Nat) (s : St) (r : Ex × St) (a : Act) (w : World), iter f n s = some r → Sim B w0 N I0 μ0 w1 k0 0 0 s a w → Code.rounds P c (fun ex a w => PostEx r.1 ex ∧ Sim B w0 N I0 μ0 w1 k0 0 0 r.2 a w) n a w
  | 0, s, r, a, w, h, _ => by cases h
  | n + 1, s, r, a, w, h, hs => by
    simp only [iter, Option.bind_eq_some_iff] at h
    obtain ⟨r1, hr1, h⟩ := h
    rw [rounds_succ]
    refine wp_mono (hf s r1 a w hr1 hs) ?_
    rintro ex a' w' ⟨hex, hs'⟩
    obtain ⟨x, s1⟩ := r1
    cases x with
    | nrm =>
      cases ex <;> simp only [PostEx] at hex
      exact iter_ok hf n s1 r a' w' h hs'
    | exit i =>
      simp only [Option.some.injEq] at h
      subst h
      cases ex <;> simp only [PostEx] at hex
      exact ⟨hex, hs'⟩
    | ret =>
      simp only [Option.some.injEq] at h
      subst h
      cases ex <;> simp only [PostEx] at hex
      exact ⟨trivial, hs'⟩
theorem evC_ok (HD : DrawsOk P md) (HC : CallsOk P C) (n : Nat) : ∀ (c : Code) (x : XC), cCode P N c = some x → ∀ (s : St) (r : Ex × St) (a : Act) (w : World), evC md C n x s = some r → Sim B w0 N I0 μ0 w1 k0 0 0 s a w →
    c.wp P (fun ex a w => PostEx r.1 ex ∧ Sim B w0 N I0 μ0 w1 k0 0 0 r.2 a w) a w
  | .skip, x, hc, s, r, a, w, hev, hs => by
    obtain rfl := Option.some.inj hc
    simp only [evC, Option.some.injEq] at hev
    subst hev
    exact wp_skip ⟨trivial, hs⟩
  | .exit id, x, hc, s, r, a, w, hev, hs => by
    obtain rfl := Option.some.inj hc
    simp only [evC, Option.some.injEq] at hev
    subst hev
    exact wp_exit ⟨rfl, hs⟩
  | .ret, x, hc, s, r, a, w, hev, hs => by
    obtain rfl := Option.some.inj hc
    simp only [evC, Option.some.injEq] at hev
    subst hev
    exact wp_ret ⟨trivial, hs⟩
  | .region id ops draw, x, hc, s, r, a, w, hev, hs => by
    simp only [cCode, Option.bind_eq_some_iff] at hc
    obtain ⟨xs, hxs, hc⟩ := hc
    cases draw with
    | true =>
      simp only [if_true] at hc
      split at hc
      · rename_i hst
        obtain rfl := Option.some.inj hc
        simp only [evC, if_true, Option.bind_eq_some_iff] at hev
        obtain ⟨z, hz, hev⟩ := hev
        split at hev
        · rename_i hp
          simp only [Option.some.injEq] at hev
          subst hev
          exact HD C HC B w0 N I0 μ0 w1 k0 id ops xs s z a w _ hxs hst hz hp hs (fun a' w' h => ⟨trivial, h⟩)
        · cases hev
      · cases hc
    | false =>
      simp only [Bool.false_eq_true, if_false, Option.some.injEq] at hc
      subst hc
      simp only [evC, Bool.false_eq_true, if_false, Option.bind_eq_some_iff, Option.some.injEq] at hev
      obtain ⟨s', hs', rfl⟩ := hev
      exact wp_region_list (evOps_ok HC ops.toList xs s.k _ s' a w hxs hs' (hs.reg (W8 * xs.length)) (fun a' w' h => ⟨trivial, h⟩))
  | .seq c1 c2, x, hc, s, r, a, w, hev, hs => by
    simp only [cCode, Option.bind_eq_some_iff, Option.some.injEq] at hc
    obtain ⟨x1, hx1, x2, hx2, rfl⟩ := hc
    simp only [evC, Option.bind_eq_some_iff] at hev
    obtain ⟨⟨ex1, s1⟩, hr1, hev⟩ := hev
    refine wp_seq (wp_mono (evC_ok HD HC n c1 x1 hx1 s _ a w hr1 hs) ?_)
    rintro ex a' w' ⟨hex, hs'⟩
    cases ex1 with
    | nrm =>
      cases ex <;> simp only [PostEx] at hex
      exact evC_ok HD HC n c2 x2 hx2 s1 r a' w' hev hs'
    | exit i =>
      simp only [Option.some.injEq] at hev
      subst hev
      cases ex <;> simp only [PostEx] at hex
      exact ⟨hex, hs'⟩
    | ret =>
      simp only [Option.some.injEq] at hev
      subst hev
      cases ex <;> simp only [PostEx] at hex
      exact ⟨trivial, hs'⟩
  | .cond co c1 c2, x, hc, s, r, a, w, hev, hs => by
    simp only [cCode, Option.bind_eq_some_iff, Option.some.injEq] at hc
    obtain ⟨y, hy, x1, hx1, x2, hx2, rfl⟩ := hc
    simp only [evC, Option.bind_eq_some_iff] at hev
    obtain ⟨t, ht, hev⟩ := hev
    obtain ⟨I, μ, h1, _⟩ := hs.ex
    have hco := ((h1.ops co y hy).asB ht).1
    cases t with
    | true =>
      simp only [if_true] at hev
      exact wp_cond hco (evC_ok HD HC n c1 x1 hx1 s r a w hev hs)
    | false =>
      simp only [Bool.false_eq_true, if_false] at hev
      exact wp_cond hco (evC_ok HD HC n c2 x2 hx2 s r a w hev hs)
  | .block id c, x, hc, s, r, a, w, hev, hs => by
    simp only [cCode, Option.bind_eq_some_iff, Option.some.injEq] at hc
    obtain ⟨x1, hx1, rfl⟩ := hc
    simp only [evC, Option.bind_eq_some_iff] at hev
    obtain ⟨⟨ex1, s1⟩, hr1, hev⟩ := hev
    refine wp_block (wp_mono (evC_ok HD HC n c x1 hx1 s _ a w hr1 hs) ?_)
    rintro ex a' w' ⟨hex, hs'⟩
    cases ex1 with
    | nrm =>
      simp only [Option.some.injEq] at hev
      subst hev
      cases ex <;> simp only [PostEx] at hex
      exact ⟨trivial, hs'⟩
    | exit i =>
      cases ex <;> simp only [PostEx] at hex
      subst hex
      simp only at hev
      simp only [Exit.inBlock]
      split at hev
      · rename_i hid
        simp only [Option.some.injEq] at hev
        subst hev
        rw [if_pos hid]
        exact ⟨trivial, hs'⟩
      · rename_i hid
        simp only [Option.some.injEq] at hev
        subst hev
        rw [if_neg hid]
        exact ⟨rfl, hs'⟩
    | ret =>
      simp only [Option.some.injEq] at hev
      subst hev
      cases ex <;> simp only [PostEx] at hex
      exact ⟨trivial, hs'⟩
  | .loop c, x, hc, s, r, a, w, hev, hs => by
    simp only [cCode, Option.bind_eq_some_iff, Option.some.injEq] at hc
    obtain ⟨x1, hx1, rfl⟩ := hc
    simp only [evC] at hev
    exact wp_loop_rounds n (iter_ok (fun s r a w h1 h2 => evC_ok HD HC n c x1 hx1 s r a w h1 h2) n s r a w hev hs)
  | .rangeFunc .., x, hc, _, _, _, _, _, _ => by cases hc
  | .scope _, x, hc, _, _, _, _, _, _ => by cases hc
  | .label _, x, hc, _, _, _, _, _, _ => by cases hc
  | .goto _, x, hc, _, _, _, _, _, _ => by cases hc
  | .refuse _, x, hc, _, _, _, _, _, _ => by cases hc

/-! ### functions -/
def resM (ts : Array Value) (r : ResultVar) : Sem Value := match r with
  | .tmp t => pure (ts.getD t undef)
  | .cell x t => do loadVar t (← asAddr (ts.getD x undef))
theorem results_ok (hi : Inv B w0 I μ h w) (he : EnvOk w I μ e a.tmps) {kk : Nat} : ∀ (rv : List ResultVar) (rs : List (Nat × Option (Nat × Bool))) (ds : List D), cRes P rv = some rs → resOf ⟨e, h, kk⟩ rs = some ds →
    ∃ vs : List Value, RpL w I μ ds vs ∧ (rv.mapM (resM a.tmps)).run P w = .ok vs w
  | [], rs, ds, hc, hr => by
    obtain rfl := Option.some.inj hc
    simp only [resOf, Option.some.injEq] at hr
    subst hr
    exact ⟨[], .nil, by simp⟩
  | .tmp t :: r, rs, ds, hc, hr => by
    simp only [cRes, Option.bind_eq_some_iff, Option.some.injEq] at hc
    obtain ⟨q, hq, rfl⟩ := hc
    simp only [resOf, Option.bind_eq_some_iff, Option.some.injEq] at hr
    obtain ⟨dq, hdq, rfl⟩ := hr
    obtain ⟨vs, h1, h2⟩ := results_ok hi he r q dq hq hdq
    refine ⟨_, .cons (he t) h1, ?_⟩
    rw [List.mapM_cons]
    have h4 : (resM a.tmps (.tmp t)).run P w = .ok (a.tmps.getD t undef) w := rfl
    simp only [Sem.run_bind, h4, Result.andThen_ok, h2, Sem.run_pure]
  | .cell x t :: r, rs, ds, hc, hr => by
    simp only [cRes, Option.bind_eq_some_iff, Option.some.injEq] at hc
    obtain ⟨n, hn, ag, hag, q, hq, rfl⟩ := hc
    simp only [resOf, Option.bind_eq_some_iff, Option.some.injEq] at hr
    obtain ⟨cs, hcs, d, hd, dq, hdq, rfl⟩ := hr
    obtain ⟨vs, h1, h2⟩ := results_ok hi he r q dq hq hdq
    obtain ⟨ad, us, hv, hl, hu, _, hcell⟩ := cellsAt_ok hi (he x) hcs
    obtain ⟨r1, r2⟩ := run_loadVar_at (P := P) hn hag hl hcell
    rcases mkD_rp hd hu with ⟨ha, _, hr⟩ | ⟨ha, _, u, rfl, hr⟩
    · refine ⟨_, .cons hr h1, ?_⟩
      rw [List.mapM_cons]
      have h4 : (resM a.tmps (.cell x t)).run P w = .ok (.agg us.toArray) w := by
        simp only [resM, Sem.run_bind, hv, asAddr, Sem.run_pure, Result.andThen_ok, r1 ha]
      simp only [Sem.run_bind, h4, Result.andThen_ok, h2, Sem.run_pure]
    · refine ⟨_, .cons hr h1, ?_⟩
      rw [List.mapM_cons]
      have h4 : (resM a.tmps (.cell x t)).run P w = .ok u w := by
        simp only [resM, Sem.run_bind, hv, asAddr, Sem.run_pure, Result.andThen_ok, r2 ha u rfl]
      simp only [Sem.run_bind, h4, Result.andThen_ok, h2, Sem.run_pure]
theorem envOf_get : ∀ (ds : List D) (j : Nat), envOf ds j = ds.getD j .und
  | [], j => by simp [envOf]
  | d :: r, 0 => rfl
  | d :: r, j + 1 => by simp [envOf, envOf_get r j]
theorem run_results {fn : Func} {ts : Array Value} {vs : List Value} (h : (fn.results.toList.mapM (resM ts)).run P w = .ok vs w) : (results fn ts).run P w = .ok (oneV vs) w := by
  have he : results fn ts = (do let vs ← fn.results.mapM (resM ts); pure (if h : vs.size = 1 then vs[0] else .tuple vs)) := by
    unfold results
    congr 1
  rw [he, Array.mapM_eq_mapM_toList]
  simp only [Sem.run_bind, Sem.run_map, h, Result.andThen_ok, Sem.run_pure]
  congr 1
  match vs with
  | [] => rfl
  | [v] => rfl
  | v :: u :: r => simp [oneV]
/-- The functions of the program, as AE's. -/
def FnsOk (P : Program) (xp : Nat → Option XF) : Prop := ∀ f F, xp f = some F → ∃ fn, P.funcs[f]? = some fn ∧ cFn P fn = some F
theorem runF_ok {xp : Nat → Option XF} (HF : FnsOk P xp) (HD : DrawsOk P md) : ∀ n, CallsOk P (runF xp md n)
  | 0 => fun f args h k ds h' k' hr => by cases hr
  | n + 1 => by
    intro f args h k ds h' k' hr
    simp only [runF, Option.bind_eq_some_iff] at hr
    obtain ⟨F, hF, hr⟩ := hr
    split at hr
    · cases hr
    · rename_i hlen
      simp only [Option.bind_eq_some_iff] at hr
      obtain ⟨⟨ex, s⟩, hev, hr⟩ := hr
      obtain ⟨fn, hfn, hcf⟩ := HF f F hF
      unfold cFn at hcf
      simp only [Option.bind_eq_some_iff] at hcf
      obtain ⟨c, hbody, hcf⟩ := hcf
      split at hcf
      · cases hcf
      · rename_i hname
        simp only [Option.bind_eq_some_iff, Option.some.injEq] at hcf
        obtain ⟨b, hb, rr, hrr, rfl⟩ := hcf
        have hr' : ∃ ds', resOf s rr = some ds' ∧ (ds, h', k') = (ds', s.h, s.k) ∧ (ex = .nrm ∨ ex = .ret) := by
          cases ex with
          | exit i => cases hr
          | nrm => simp only [Option.bind_eq_some_iff, Option.some.injEq] at hr; obtain ⟨d1, hd1, hr⟩ := hr; exact ⟨d1, hd1, hr.symm, .inl rfl⟩
          | ret => simp only [Option.bind_eq_some_iff, Option.some.injEq] at hr; obtain ⟨d1, hd1, hr⟩ := hr; exact ⟨d1, hd1, hr.symm, .inr rfl⟩
        obtain ⟨ds', hds, heq, hex⟩ := hr'
        obtain ⟨rfl, rfl, rfl⟩ : ds = ds' ∧ h' = s.h ∧ k' = s.k := by simpa using heq
        refine ⟨⟨fn, hfn, by rw [hbody]; rfl, by simpa using hname⟩, ?_⟩
        intro B w0 I μ w vs hi hnm hv
        have hvl : vs.length ≤ fn.ntmps := by have := hv.1; simp at hlen; omega
        refine calls_of_wp hfn hbody ?_
        have hs : Sim B w0 fn.ntmps I μ w k 0 0 ⟨envOf args, h, k⟩ { tmps := vs.toArray ++ Array.replicate (fn.ntmps - vs.toArray.size) undef, defers := [] } w := by
          refine ⟨⟨I, μ, fun j => ?_, hi, .refl _ _ _, hnm, fun _ _ h => h, Nat.le_refl _, fun b hb => .inl hb, fun j _ hj => by omega, by omega, fun hm => by omega⟩, by simp; omega, rfl⟩
          show Rp w I μ (envOf args j) ((vs.toArray ++ Array.replicate (fn.ntmps - vs.toArray.size) undef).getD j undef)
          rw [envOf_get]
          rcases Nat.lt_or_ge j vs.length with hj | hj
          · have hja : j < args.length := by rw [hv.1]; exact hj
            have hd : args[j]? = some args[j] := List.getElem?_eq_getElem hja
            have hvj : vs[j]? = some vs[j] := List.getElem?_eq_getElem hj
            have := hv.2 j _ _ hd hvj
            rw [List.getD_eq_getElem?_getD, hd, Array.getD_eq_getD_getElem?, Array.getElem?_append_left (by simpa using hj)]
            simpa [hvj] using this
          · rw [List.getD_eq_getElem?_getD, List.getElem?_eq_none (by rw [hv.1]; exact hj), Array.getD_eq_getD_getElem?, Array.getElem?_append_right (by simpa using hj)]
            simp only [Option.getD_none, Array.getElem?_replicate]
            split <;> exact .im .und
        refine wp_mono (evC_ok HD (runF_ok HF HD n) n c b hb _ _ _ w hev hs) ?_
        rintro en a' w' ⟨hpe, hs'⟩
        obtain ⟨⟨I', μ', h1, h2, h3, h4, h5, h6, h7, _⟩, hz, hd⟩ := hs'
        have fin : a'.defers = [] ∧ ∃ v, (results fn a'.tmps).run P w' = .ok v w' ∧ ∃ rs I' μ', Ending.returned v = .returned (oneV rs) ∧ RpL w' I' μ' ds rs ∧ Inv B w0 I' μ' s.h w' ∧ Go1 I I' μ μ' w w' ∧ (∀ l, s.k ≤ l → μ' l = none) ∧ (∀ l, l < k → μ l = none → μ' l = none) ∧ k ≤ s.k ∧ (∀ b, I' b → I b ∨ B ≤ b) := by
          obtain ⟨vs', r1, r2⟩ := results_ok (P := P) (kk := s.k) h2 h1 fn.results.toList rr ds hrr hds
          exact ⟨hd, oneV vs', run_results r2, vs', I', μ', rfl, r1, h2, h3, h4, h5, h6, h7⟩
        rcases hex with rfl | rfl
        · cases en <;> simp only [PostEx] at hpe
          exact fin
        · cases en <;> simp only [PostEx] at hpe
          exact fin
end
end Go.Proofs.Ytpdamhhaepcffaa.AE
/-
  AE, part 16: what an operation looks at, and what it changes: nothing else.
-/
set_option linter.unusedVariables false
set_option linter.unusedSimpArgs false
namespace Go.Proofs.Ytpdamhhaepcffaa.AE
open Go Go.RowKit
section
variable {e e' : Env} {h h' h2 : Hp} {k n n' : Nat} {C : Calls1} {md : Nat → Bool} {d : D} {o : XOp}
theorem ev_congr {x : X} (hx : ∀ t ∈ x.tm, e t = e' t) : x.ev e = x.ev e' := by
  cases x with
  | t k => exact hx k (by simp [X.tm])
  | c d => rfl
theorem map_congr {xs : List X} (hx : ∀ x ∈ xs, x.ev e = x.ev e') : xs.map (X.ev e) = xs.map (X.ev e') := List.map_congr_left hx
theorem bnd_congr {x : Option X} {z : Nat} (hx : ∀ y ∈ x.toList, y.ev e = y.ev e') : bnd e z x = bnd e' z x := by
  cases x with
  | none => rfl
  | some y => simp only [bnd]; rw [hx y (by simp)]
theorem evP_congr (hx : ∀ x ∈ o.xs, x.ev e = x.ev e') : evP e h k o = evP e' h k o := by
  cases o <;> simp only [XOp.xs, List.mem_cons, List.not_mem_nil, or_false, forall_eq_or_imp, forall_eq, List.mem_map, List.mem_append, forall_exists_index, and_imp, forall_apply_eq_imp_iff₂] at hx <;> simp only [evP]
  case build z ps =>
    have : (ps.map fun p => (p.1, p.2.1, p.2.2.ev e)) = (ps.map fun p => (p.1, p.2.1, p.2.2.ev e')) := List.map_congr_left fun p hp => by rw [hx p hp]
    rw [this]
  case bsl t sz z n ps =>
    have : (ps.map fun p => p.2.ev e) = (ps.map fun p => p.2.ev e') := List.map_congr_left fun p hp => hx p hp
    rw [this]
  case bsf t sz z n ps =>
    have : (ps.map fun p => p.2.ev e) = (ps.map fun p => p.2.ev e') := List.map_congr_left fun p hp => hx p hp
    rw [this]
  case bdf z ps =>
    have : (ps.map fun p => (p.1, p.2.1, p.2.2.ev e)) = (ps.map fun p => (p.1, p.2.1, p.2.2.ev e')) := List.map_congr_left fun p hp => by rw [hx p hp]
    rw [this]
  case mkfn f xs => rw [map_congr hx]
  case slS x lo hi =>
    rw [hx.1, bnd_congr (x := lo) (fun y hy => hx.2 y (.inl hy))]
    have : ∀ z, bnd e z hi = bnd e' z hi := fun z => bnd_congr (fun y hy => hx.2 y (.inr hy))
    simp only [this]
  all_goals first | rfl | (simp only [hx]; done) | (rw [hx]; done) | (obtain ⟨h1, h2⟩ := hx; rw [h1, h2]; done) | (obtain ⟨h1, h2, h3⟩ := hx; rw [h1, h2, h3]; done)
theorem target_congr (hx : ∀ x ∈ o.xs, x.ev e = x.ev e') : target e o = target e' o := by
  cases o <;> simp only [XOp.xs, List.mem_cons, forall_eq_or_imp] at hx <;> simp only [target]
  · rw [map_congr hx]
  · rw [hx.1, map_congr hx.2]
theorem evOp_congr (hx : ∀ x ∈ o.xs, x.ev e = x.ev e') : evOp md C e h k n o = evOp md C e' h k n o := by
  unfold evOp
  rw [evP_congr hx, target_congr hx]
theorem touch_congr (hx : ∀ x ∈ o.xs, x.ev e = x.ev e') : touch e o = touch e' o := by
  cases o <;> simp only [XOp.xs, List.mem_cons, List.not_mem_nil, or_false, forall_eq_or_imp, forall_eq] at hx <;> simp only [touch]
  all_goals first | rfl | (rw [hx]; done) | (rw [hx.1]; done) | (rw [hx.1, hx.2]; done) | (rw [map_congr hx]; done) | (rw [hx.1, map_congr hx.2]; done)
theorem okD_congr (hx : ∀ x ∈ o.xs, x.ev e = x.ev e') : okD md C e h o = okD md C e' h o := by
  cases o <;> simp only [XOp.xs, List.mem_cons, List.not_mem_nil, or_false, forall_eq_or_imp, forall_eq, List.mem_map, forall_exists_index, and_imp, forall_apply_eq_imp_iff₂] at hx <;> simp only [okD]
  case bsl t sz z n ps =>
    have : (ps.map fun p => p.2.ev e) = (ps.map fun p => p.2.ev e') := List.map_congr_left fun p hp => hx p hp
    rw [this]
  case bsf t sz z n ps =>
    have : (ps.map fun p => p.2.ev e) = (ps.map fun p => p.2.ev e') := List.map_congr_left fun p hp => hx p hp
    rw [this]
  case app t sz b x y => rw [hx.1, hx.2]
  case call f xs => rw [map_congr hx]
  case callv x xs => rw [hx.1, map_congr hx.2]

/-! ### locality -/
/-- h2 with what h' has at the names of wn and at k .. k + 8. -/
def pat (wn : List Nat) (k : Nat) (h' h2 : Hp) : Hp := fun l => if l ∈ wn ∨ (k ≤ l ∧ l < k + W8) then h' l else h2 l
def Agr (ns : List Nat) (h h2 : Hp) : Prop := ∀ l ∈ ns, h2 l = h l
def AgN (k : Nat) (h h2 : Hp) : Prop := ∀ l, k ≤ l → l < k + W8 → h2 l = h l
/-- What an operation changes and looks at. -/
structure Loc (md : Nat → Bool) (C : Calls1) (e : Env) (h : Hp) (k n : Nat) (o : XOp) (d : D) (h' : Hp) (n' : Nat) : Prop where
  nn : n' = n
  far : ∀ l, l ∉ (touch e o).2 → ¬ (k ≤ l ∧ l < k + W8) → h' l = h l
  mv : ∀ h2, Agr (touch e o).1 h h2 → Agr (touch e o).2 h h2 → AgN k h h2 → okD md C e h2 o = true ∧ evOp md C e h2 k n o = some (d, pat (touch e o).2 k h' h2, n)
theorem pat_same (ha : AgN k h h2) : pat [] k h h2 = h2 := by
  funext l
  simp only [pat, List.not_mem_nil, false_or]
  split
  · rename_i hl; exact (ha l hl.1 hl.2).symm
  · rfl
theorem pat_put (ha : AgN k h h2) (ob : Ob) : pat [] k (hput h k ob) h2 = hput h2 k ob := by
  funext l
  simp only [pat, List.not_mem_nil, false_or]
  split
  · rename_i hl
    by_cases he : l = k
    · subst he; rw [hput_same, hput_same]
    · rw [hput_ne _ _ he, hput_ne _ _ he]; exact (ha l hl.1 hl.2).symm
  · rename_i hl
    rw [hput_ne _ _ (fun he => hl ⟨by omega, by have w8 : W8 = 8 := rfl; omega⟩)]
theorem pat_set {j : Nat} (ha : AgN k h h2) (ob : Ob) : pat [j] k (hput h j ob) h2 = hput h2 j ob := by
  funext l
  simp only [pat, List.mem_singleton]
  by_cases he : l = j
  · subst he; rw [if_pos (.inl rfl), hput_same, hput_same]
  · rw [hput_ne h2 _ he]
    split
    · rename_i hl
      rw [hput_ne _ _ he]
      rcases hl with hl | hl
      · exact absurd hl he
      · exact (ha l hl.1 hl.2).symm
    · rfl
theorem pat_app {j : Nat} (ha : AgN k h h2) (ob : Ob) : pat [j] k (hput (hput h j .no) k ob) h2 = hput (hput h2 j .no) k ob := by
  funext l
  simp only [pat, List.mem_singleton]
  by_cases hk : l = k
  · subst hk; rw [if_pos (.inr ⟨Nat.le_refl _, by have w8 : W8 = 8 := rfl; omega⟩), hput_same, hput_same]
  · rw [hput_ne _ _ hk, hput_ne _ _ hk]
    by_cases he : l = j
    · subst he; rw [if_pos (.inl rfl), hput_same, hput_same]
    · rw [hput_ne h2 _ he]
      split
      · rename_i hl
        rw [hput_ne _ _ he]
        rcases hl with hl | hl
        · exact absurd hl he
        · exact (ha l hl.1 hl.2).symm
      · rfl
theorem cellsAt_agr {m : Nat} (ha : Agr d.nm h h2) : cellsAt h2 m d = cellsAt h m d := by
  cases d <;> simp only [cellsAt]
  rw [ha _ (by simp [D.nm])]
theorem elems_agr (ha : Agr d.nm h h2) : elems h2 d = elems h d := by
  cases d <;> simp only [elems]
  rw [ha _ (by simp [D.nm])]
theorem putAt_agr {m : Nat} {cs : List D} (ha : Agr d.nm h h2) (hp : putAt h m cs d = some h') : ∃ j ob, d.nm = [j] ∧ h' = hput h j ob ∧ putAt h2 m cs d = some (hput h2 j ob) := by
  cases d <;> simp only [putAt] at hp <;> try (cases hp; done)
  rename_i l i o
  have hl : h2 l = h l := ha l (by simp [D.nm])
  cases hob : h l with
  | var cs' own =>
    rw [hob] at hp hl
    cases own with
    | false => cases hp
    | true =>
      simp only at hp
      split at hp
      · rename_i hc
        exact ⟨l, _, rfl, (Option.some.inj hp).symm, by simp only [putAt, hl]; rw [if_pos hc]⟩
      · cases hp
  | row ety sz xs own =>
    rw [hob] at hp hl
    cases own with
    | false => cases hp
    | true =>
      simp only at hp
      split at hp
      · rename_i x hx
        split at hp
        · rename_i hc
          exact ⟨l, _, rfl, (Option.some.inj hp).symm, by simp only [putAt, hl, hx]; rw [if_pos hc]⟩
        · cases hp
      · cases hp
  | _ => rw [hob] at hp; cases hp
theorem frz_im (hd : d.im = true) (m : Nat) : frz (m + 1) h d = some (d, h) := by
  cases d <;> simp only [D.im] at hd <;> try (cases hd; done)
  all_goals try rfl
  rename_i f caps
  have : caps = [] := by simpa using hd
  subst this
  rfl
theorem frzL_im : ∀ {ds : List D}, ds.all D.im = true → frzL (fun h d => frz 9 h d) h ds = some (ds, h)
  | [], _ => rfl
  | d :: r, hd => by
    simp only [List.all_cons, Bool.and_eq_true] at hd
    simp only [frzL, frz_im hd.1, Option.bind_some, frzL_im hd.2]
theorem frzL_imG (m : Nat) : ∀ {ds : List D}, ds.all D.im = true → frzL (frz (m + 1)) h ds = some (ds, h)
  | [], _ => rfl
  | d :: r, hd => by
    simp only [List.all_cons, Bool.and_eq_true] at hd
    simp only [frzL, frz_im hd.1, Option.bind_some, frzL_imG m hd.2]
theorem frz_imA (hd : d.imA = true) (m : Nat) : frz (m + 2) h d = some (d, h) := by
  by_cases hc : ∃ cs, d = .agg cs
  · obtain ⟨cs, rfl⟩ := hc
    have hd : cs.all D.im = true := hd
    show ((frzL (frz (m + 1)) h cs).bind fun p => some (D.agg p.1, p.2)) = _
    rw [frzL_imG m hd]
    rfl
  · by_cases hc2 : ∃ f cs, d = .fn f cs
    · obtain ⟨f, cs, rfl⟩ := hc2
      have hd : cs.all D.im = true := hd
      show ((frzL (frz (m + 1)) h cs).bind fun p => some (D.fn f p.1, p.2)) = _
      rw [frzL_imG m hd]
      rfl
    refine frz_im ?_ (m + 1)
    cases d <;> first | exact hd | exact absurd ⟨_, rfl⟩ hc | exact absurd ⟨_, _, rfl⟩ hc2
theorem frzL_imA : ∀ {ds : List D}, ds.all D.imA = true → frzL (fun h d => frz 9 h d) h ds = some (ds, h)
  | [], _ => rfl
  | d :: r, hd => by
    simp only [List.all_cons, Bool.and_eq_true] at hd
    simp only [frzL, frz_imA hd.1 7, Option.bind_some, frzL_imA hd.2]
theorem frzL_osl : ∀ {ds ds' : List D} {h h2 h1 : Hp}, ds.all isOslIm = true → (∀ d ∈ ds, Agr d.nm h h2) → frzL (fun h d => frz 9 h d) h ds = some (ds', h1) → ∃ h21, frzL (fun h d => frz 9 h d) h2 ds = some (ds', h21)
  | [], ds', h, h2, h1, _, _, hf => by
    simp only [frzL, Option.some.injEq, Prod.mk.injEq] at hf
    obtain ⟨rfl, rfl⟩ := hf
    exact ⟨h2, rfl⟩
  | d :: r, ds', h, h2, h1, hd, ha, hf => by
    simp only [List.all_cons, Bool.and_eq_true] at hd
    simp only [frzL, Option.bind_eq_some_iff, Option.some.injEq, Prod.mk.injEq] at hf
    obtain ⟨p, hp, q, hq, rfl, rfl⟩ := hf
    have step : ∃ p2, frz 9 h2 d = some (p.1, p2) ∧ ∀ c ∈ r, Agr c.nm p.2 p2 := by
      by_cases him : d.imA = true
      · rw [frz_imA him 7] at hp
        obtain rfl := Option.some.inj hp
        exact ⟨h2, frz_imA him 7, fun c hc => ha c (by simp [hc])⟩
      · cases d <;> simp only [isOslIm] at hd <;> try (exact absurd hd.1 him)
        rename_i l
        have hl : h2 l = h l := ha (.osl l) (by simp) l (by simp [D.nm])
        simp only [frz] at hp ⊢
        cases hob : h l with
        | row ety sz xs own =>
          rw [hob] at hp hl
          simp only [Option.some.injEq] at hp
          subst hp
          rw [hl]
          refine ⟨_, rfl, fun c hc j hj => ?_⟩
          have := ha c (by simp [hc]) j hj
          by_cases he : j = l
          · subst he; simp only [hput_same]
          · simp only [hput_ne _ _ he]; exact this
        | _ => rw [hob] at hp; cases hp
    obtain ⟨p2, hp2, ha2⟩ := step
    obtain ⟨h21, h3⟩ := frzL_osl hd.2 ha2 hq
    exact ⟨h21, by simp only [frzL, hp2, Option.bind_some, h3]⟩
theorem takeIn_far : ∀ (r : List D) (k : Nat) (h : Hp) (l : Nat), (l < k ∨ k + r.length ≤ l) → (takeIn h k r).2 l = h l
  | [], k, h, l, _ => rfl
  | d :: r, k, h, l, hl => by
    have hl2 : l < k + 1 ∨ k + 1 + r.length ≤ l := by simp at hl; omega
    have other : (takeIn h (k + 1) r).2 l = h l := takeIn_far r (k + 1) h l hl2
    cases d <;> first | exact other | skip
    rename_i ety sz xs
    have := takeIn_far r (k + 1) (hput h k (.row ety sz xs true)) l hl2
    rw [hput_ne _ _ (by simp at hl; omega)] at this
    exact this
theorem takeIn_one : ∀ (r : List D) (k : Nat) (h h2 : Hp), (takeIn h2 k r).1 = (takeIn h k r).1
  | [], k, h, h2 => rfl
  | d :: r, k, h, h2 => by
    cases d <;> first | exact congrArg (fun q => _ :: q) (takeIn_one r (k + 1) h h2) | skip
    exact congrArg (fun q => _ :: q) (takeIn_one r (k + 1) _ _)
theorem takeIn_at : ∀ (r : List D) (k : Nat) (h h2 : Hp) (l : Nat), h2 l = h l → (takeIn h2 k r).2 l = (takeIn h k r).2 l
  | [], k, h, h2, l, hl => hl
  | d :: r, k, h, h2, l, hl => by
    cases d <;> first | exact takeIn_at r (k + 1) h h2 l hl | skip
    refine takeIn_at r (k + 1) _ _ l ?_
    by_cases he : l = k
    · subst he; rw [hput_same, hput_same]
    · rw [hput_ne _ _ he, hput_ne _ _ he]; exact hl
theorem takeIn_pat {r : List D} (hr : r.length ≤ W8) (ha : AgN k h h2) : takeIn h2 k r = ((takeIn h k r).1, pat [] k (takeIn h k r).2 h2) := by
  refine Prod.ext (takeIn_one r k h h2) ?_
  funext l
  simp only [pat, List.not_mem_nil, false_or]
  split
  · rename_i hl; exact takeIn_at r k h h2 l (ha l hl.1 hl.2)
  · rename_i hl; exact takeIn_far r k h2 l (by omega)
/-- Calls. -/
theorem call_loc {f : Nat} {args : List D} (ht : target e o = some (f, args)) (hcall : isCall o = true) (htouch : touch e o = (args.flatMap D.nm, []))
    (hok : ∀ h, okD md C e h o = (!md f && ((args.all D.imA) || ((args.all isOslIm) && (((frzL (fun h d => frz 9 h d) h args).bind fun q => callP C f q.1).any fun r => r.all D.scalar)))))
    (hd : okD md C e h o = true) (hev : evOp md C e h k n o = some (d, h', n')) : Loc md C e h k n o d h' n' := by
  have hd0 := hd
  rw [hok] at hd
  simp only [Bool.and_eq_true, Bool.not_eq_true', Bool.or_eq_true] at hd
  obtain ⟨hmd, hd⟩ := hd
  have hevh : ∀ h2, evOp md C e h2 k n o = (frzL (fun h d => frz 9 h d) h2 args).bind fun q => (callP C f q.1).bind fun r => if r.all D.scalar then some (one r, h2, n) else if r.length ≤ W8 then some (one (takeIn q.2 k r).1, (takeIn q.2 k r).2, n) else none := by
    intro h2
    unfold evOp
    rw [if_pos hcall, ht]
    simp only [Option.bind_some, hmd, Bool.false_eq_true, if_false]
  rw [hevh] at hev
  simp only [Option.bind_eq_some_iff] at hev
  obtain ⟨q, hq, r, hr, hev⟩ := hev
  rcases hd with him | hosl
  · rw [frzL_imA him] at hq
    obtain rfl := Option.some.inj hq
    split at hev
    · rename_i hsc
      simp only [Option.some.injEq, Prod.mk.injEq] at hev
      obtain ⟨rfl, rfl, rfl⟩ := hev
      refine ⟨rfl, fun _ _ _ => rfl, fun h2 _ _ a3 => ⟨?_, ?_⟩⟩
      · rw [hok, hmd, him]; rfl
      · rw [hevh, frzL_imA him, htouch, pat_same a3]
        simp only [Option.bind_some, hr, hsc, if_true]
    · rename_i hsc
      split at hev
      · rename_i hlen
        simp only [Option.some.injEq, Prod.mk.injEq] at hev
        obtain ⟨rfl, rfl, rfl⟩ := hev
        refine ⟨rfl, fun l _ hl => takeIn_far r k h l (by omega), fun h2 _ _ a3 => ⟨?_, ?_⟩⟩
        · rw [hok, hmd, him]; rfl
        · rw [hevh, frzL_imA him, htouch]
          simp only [Option.bind_some, hr]
          rw [if_neg hsc, if_pos hlen, takeIn_pat hlen a3]
      · cases hev
  · obtain ⟨hosl, hsc⟩ := hosl
    rw [hq] at hsc
    simp only [Option.bind_some, hr, Option.any_some] at hsc
    rw [if_pos hsc] at hev
    simp only [Option.some.injEq, Prod.mk.injEq] at hev
    obtain ⟨rfl, rfl, rfl⟩ := hev
    refine ⟨rfl, fun _ _ _ => rfl, fun h2 a1 _ a3 => ?_⟩
    rw [htouch] at a1
    obtain ⟨h21, hq2⟩ := frzL_osl hosl (fun d hd l hl => a1 l (List.mem_flatMap.2 ⟨d, hd, hl⟩)) hq
    constructor
    · rw [hok, hmd, hosl, hq2]
      simp only [Option.bind_some, hr, Option.any_some, hsc, Bool.not_false, Bool.true_and, Bool.or_true]
    · rw [hevh, hq2, htouch, pat_same a3]
      simp only [Option.bind_some, hr, hsc, if_true]
theorem plain_loc (hnc : isCall o = false) {r : D × Hp} (hokd : ∀ h2, Agr (touch e o).1 h h2 → Agr (touch e o).2 h h2 → okD md C e h2 o = true) (hp : evP e h k o = some r) (hfar : ∀ l, l ∉ (touch e o).2 → ¬ (k ≤ l ∧ l < k + W8) → r.2 l = h l)
    (hmv : ∀ h2, Agr (touch e o).1 h h2 → Agr (touch e o).2 h h2 → AgN k h h2 → evP e h2 k o = some (r.1, pat (touch e o).2 k r.2 h2)) (hev : evOp md C e h k n o = some (d, h', n')) : Loc md C e h k n o d h' n' := by
  unfold evOp at hev
  rw [if_neg (by rw [hnc]; simp), hp] at hev
  simp only [Option.bind_some, Option.some.injEq, Prod.mk.injEq] at hev
  obtain ⟨rfl, rfl, rfl⟩ := hev
  refine ⟨rfl, hfar, fun h2 a1 a2 a3 => ⟨hokd h2 a1 a2, ?_⟩⟩
  unfold evOp
  rw [if_neg (by rw [hnc]; simp), hmv h2 a1 a2 a3]
  rfl
theorem evOp_loc (hd : okD md C e h o = true) (hev : evOp md C e h k n o = some (d, h', n')) : Loc md C e h k n o d h' n' := by
  -- an operation that leaves the blocks alone and does not look at them
  have pure : isCall o = false → touch e o = ([], []) → (∀ h2, okD md C e h2 o = true) → (∀ h2, ∀ r, evP e h k o = some r → r.2 = h ∧ evP e h2 k o = some (r.1, h2)) → Loc md C e h k n o d h' n' := by
    intro hc ht hk hp
    have : ∃ r, evP e h k o = some r := by
      unfold evOp at hev
      rw [if_neg (by rw [hc]; simp)] at hev
      simp only [Option.bind_eq_some_iff] at hev
      obtain ⟨r, hr, _⟩ := hev
      exact ⟨r, hr⟩
    obtain ⟨r, hr⟩ := this
    obtain ⟨p1, _⟩ := hp h r hr
    refine plain_loc hc (fun h2 _ _ => hk h2) hr (fun l _ _ => by rw [p1]) (fun h2 _ _ a3 => ?_) hev
    obtain ⟨_, p2⟩ := hp h2 r hr
    rw [p2, ht, p1, pat_same a3]
  have fresh : isCall o = false → touch e o = ([], []) → (∀ h2, okD md C e h2 o = true) → (∀ h2, ∀ r, evP e h k o = some r → ∃ ob, r.2 = hput h k ob ∧ evP e h2 k o = some (r.1, hput h2 k ob)) → Loc md C e h k n o d h' n' := by
    intro hc ht hk hp
    have : ∃ r, evP e h k o = some r := by
      unfold evOp at hev
      rw [if_neg (by rw [hc]; simp)] at hev
      simp only [Option.bind_eq_some_iff] at hev
      obtain ⟨r, hr, _⟩ := hev
      exact ⟨r, hr⟩
    obtain ⟨r, hr⟩ := this
    obtain ⟨ob, p1, _⟩ := hp h r hr
    refine plain_loc hc (fun h2 _ _ => hk h2) hr (fun l _ hl => by rw [p1, hput_ne _ _ (fun he => hl ⟨by omega, by have w8 : W8 = 8 := rfl; omega⟩)]) (fun h2 _ _ a3 => ?_) hev
    obtain ⟨ob2, p2, p3⟩ := hp h2 r hr
    rw [p3, ht, p2, pat_put a3]
  have reads : isCall o = false → (touch e o).2 = [] → (∀ h2, okD md C e h2 o = true) → (∀ h2, Agr (touch e o).1 h h2 → ∀ r, evP e h k o = some r → r.2 = h ∧ evP e h2 k o = some (r.1, h2)) → Loc md C e h k n o d h' n' := by
    intro hc ht hk hp
    have : ∃ r, evP e h k o = some r := by
      unfold evOp at hev
      rw [if_neg (by rw [hc]; simp)] at hev
      simp only [Option.bind_eq_some_iff] at hev
      obtain ⟨r, hr, _⟩ := hev
      exact ⟨r, hr⟩
    obtain ⟨r, hr⟩ := this
    obtain ⟨p1, _⟩ := hp h (fun _ _ => rfl) r hr
    refine plain_loc hc (fun h2 _ _ => hk h2) hr (fun l _ _ => by rw [p1]) (fun h2 a1 _ a3 => ?_) hev
    obtain ⟨_, p2⟩ := hp h2 a1 r hr
    rw [p2, ht, p1, pat_same a3]
  cases o with
  | mv x => exact pure rfl rfl (fun _ => rfl) (fun h2 r hr => by simp only [evP, Option.some.injEq] at hr; subst hr; exact ⟨rfl, rfl⟩)
  | pick c a b => exact pure rfl rfl (fun _ => rfl) (fun h2 r hr => by simp only [evP, Option.bind_eq_some_iff, Option.some.injEq] at hr; obtain ⟨t, ht, rfl⟩ := hr; exact ⟨rfl, by simp only [evP, ht, Option.bind_some]⟩)
  | build z ps => exact pure rfl rfl (fun _ => rfl) (fun h2 r hr => by simp only [evP, Option.bind_eq_some_iff, Option.some.injEq] at hr; obtain ⟨t, ht, rfl⟩ := hr; exact ⟨rfl, by simp only [evP, ht, Option.bind_some]⟩)
  | bin bt op x y => exact pure rfl rfl (fun _ => rfl) (fun h2 r hr => by simp only [evP, Option.bind_eq_some_iff, Option.some.injEq] at hr; obtain ⟨t, ht, rfl⟩ := hr; exact ⟨rfl, by simp only [evP, ht, Option.bind_some]⟩)
  | cvi kd x => exact pure rfl rfl (fun _ => rfl) (fun h2 r hr => by simp only [evP, Option.bind_eq_some_iff, Option.some.injEq] at hr; obtain ⟨t, ht, rfl⟩ := hr; exact ⟨rfl, by simp only [evP, ht, Option.bind_some]⟩)
  | mm hi x y => exact pure rfl rfl (fun _ => rfl) (fun h2 r hr => by simp only [evP, Option.bind_eq_some_iff, Option.some.injEq] at hr; obtain ⟨t, ht, rfl⟩ := hr; exact ⟨rfl, by simp only [evP, ht, Option.bind_some]⟩)
  | un op x => exact pure rfl rfl (fun _ => rfl) (fun h2 r hr => by simp only [evP, Option.bind_eq_some_iff, Option.some.injEq] at hr; obtain ⟨t, ht, rfl⟩ := hr; exact ⟨rfl, by simp only [evP, ht, Option.bind_some]⟩)
  | eqs neg ks x y => exact pure rfl rfl (fun _ => rfl) (fun h2 r hr => by
      simp only [evP] at hr ⊢
      split at hr
      · simp only [Option.bind_eq_some_iff, Option.some.injEq] at hr; obtain ⟨t, ht, rfl⟩ := hr; exact ⟨rfl, by rename_i h1 h2'; simp only [h1, h2', ht, Option.bind_some]⟩
      · cases hr)
  | ext x j => exact pure rfl rfl (fun _ => rfl) (fun h2 r hr => by
      simp only [evP] at hr ⊢
      split at hr
      · rename_i cs hx; simp only [Option.bind_eq_some_iff, Option.some.injEq] at hr ⊢; obtain ⟨t, ht, rfl⟩ := hr; exact ⟨rfl, t, ht, rfl⟩
      · cases hr)
  | fld m ag off x => exact pure rfl rfl (fun _ => rfl) (fun h2 r hr => by
      simp only [evP] at hr ⊢
      split at hr
      · rename_i cs hx; simp only [Option.bind_eq_some_iff, Option.some.injEq] at hr; obtain ⟨t, ht, u, hu, rfl⟩ := hr; exact ⟨rfl, by simp only [hx, ht, hu, Option.bind_some]⟩
      · cases hr)
  | fad off x => exact pure rfl rfl (fun _ => rfl) (fun h2 r hr => by
      simp only [evP] at hr ⊢
      split at hr
      · rename_i cs oo hx; simp only [Option.some.injEq] at hr; subst hr; exact ⟨rfl, by simp only [hx]⟩
      · rename_i l i oo hx; simp only [Option.some.injEq] at hr; subst hr; exact ⟨rfl, by simp only [hx]⟩
      · cases hr)
  | iaA m sz x i => exact pure rfl rfl (fun _ => rfl) (fun h2 r hr => by
      simp only [evP, Option.bind_eq_some_iff] at hr ⊢
      obtain ⟨j, hj, hr⟩ := hr
      split at hr
      · rename_i hb
        split at hr
        · rename_i cs oo hx; simp only [Option.some.injEq] at hr; subst hr; exact ⟨rfl, j, hj, by rw [if_pos hb]⟩
        · rename_i l i oo hx; simp only [Option.some.injEq] at hr; subst hr; exact ⟨rfl, j, hj, by rw [if_pos hb]⟩
        · cases hr
      · cases hr)
  | ixS x i => exact pure rfl rfl (fun _ => rfl) (fun h2 r hr => by
      simp only [evP, Option.bind_eq_some_iff] at hr ⊢
      obtain ⟨j, hj, hr⟩ := hr
      split at hr
      · rename_i s hx
        split at hr
        · rename_i hb; simp only [Option.some.injEq] at hr; subst hr; exact ⟨rfl, j, hj, by simp only [hx]; rw [dif_pos hb]⟩
        · cases hr
      · cases hr)
  | mkfn f xs => exact pure rfl rfl (fun _ => rfl) (fun h2 r hr => by simp only [evP, Option.some.injEq] at hr; subst hr; exact ⟨rfl, rfl⟩)
  | slS x lo hi => exact pure rfl rfl (fun _ => rfl) (fun h2 r hr => by
      simp only [evP] at hr ⊢
      split at hr
      · rename_i s hx
        simp only [Option.bind_eq_some_iff] at hr
        obtain ⟨a, ha, b, hb, hr⟩ := hr
        split at hr
        · rename_i hab; simp only [Option.some.injEq] at hr; subst hr; exact ⟨rfl, by simp only [hx, ha, hb, Option.bind_some]; rw [if_pos hab]⟩
        · cases hr
      · cases hr)
  | nilc x => exact pure rfl rfl (fun _ => rfl) (fun h2 r hr => by
      simp only [evP] at hr ⊢
      split at hr
      · rename_i cs oo hx; simp only [Option.some.injEq] at hr; subst hr; exact ⟨rfl, by simp only [hx]⟩
      · rename_i l i oo hx; simp only [Option.some.injEq] at hr; subst hr; exact ⟨rfl, by simp only [hx]⟩
      · cases hr)
  | alloc z => exact fresh rfl rfl (fun _ => rfl) (fun h2 r hr => by simp only [evP, Option.some.injEq] at hr; subst hr; exact ⟨_, rfl, rfl⟩)
  | box m x => exact fresh rfl rfl (fun _ => rfl) (fun h2 r hr => by
      simp only [evP, Option.bind_eq_some_iff] at hr ⊢
      obtain ⟨cs, hcs, hr⟩ := hr
      split at hr
      · rename_i hl; simp only [Option.some.injEq] at hr; subst hr; exact ⟨_, rfl, cs, hcs, by rw [if_pos hl]⟩
      · cases hr)
  | mks t sz by_ z x y => exact fresh rfl rfl (fun _ => rfl) (fun h2 r hr => by
      simp only [evP, Option.bind_eq_some_iff] at hr ⊢
      obtain ⟨a, ha, b, hb, hr⟩ := hr
      split at hr
      · rename_i hl; simp only [Option.some.injEq] at hr; subst hr; exact ⟨_, rfl, a, ha, b, hb, by rw [if_pos hl]⟩
      · cases hr)
  | bsl t sz z m ps =>
    have him : (ps.map fun p => p.2.ev e).all D.imA = true := hd
    exact fresh rfl rfl (fun _ => hd) (fun h2 r hr => by
      simp only [evP, frzL_imA him, Option.bind_some, Option.bind_eq_some_iff, Option.some.injEq] at hr ⊢
      obtain ⟨xs, hxs, rfl⟩ := hr
      exact ⟨_, rfl, xs, hxs, rfl⟩)
  | bsf t sz z m ps =>
    have him : (ps.map fun p => p.2.ev e).all D.imA = true := hd
    exact fresh rfl rfl (fun _ => hd) (fun h2 r hr => by
      simp only [evP, frzL_imA him, Option.bind_some, Option.bind_eq_some_iff, Option.some.injEq] at hr ⊢
      obtain ⟨xs, hxs, rfl⟩ := hr
      exact ⟨_, rfl, xs, hxs, rfl⟩)
  | bdf z ps => cases hd
  | load m ag x => exact reads rfl rfl (fun _ => rfl) (fun h2 a1 r hr => by
      simp only [evP, Option.bind_eq_some_iff, Option.some.injEq] at hr ⊢
      obtain ⟨cs, hcs, u, hu, rfl⟩ := hr
      exact ⟨rfl, cs, by rw [cellsAt_agr a1]; exact hcs, u, hu, rfl⟩)
  | iaS sz x i => exact reads rfl rfl (fun _ => rfl) (fun h2 a1 r hr => by
      simp only [evP, Option.bind_eq_some_iff] at hr ⊢
      obtain ⟨j, hj, hr⟩ := hr
      split at hr
      · rename_i hb
        split at hr
        · rename_i xs hx
          split at hr
          · rename_i y hy
            split at hr
            · rename_i hyl; simp only [Option.some.injEq] at hr; subst hr; exact ⟨rfl, j, hj, by rw [if_pos hb]; simp only [hx, hy]; rw [if_pos hyl]⟩
            · cases hr
          · cases hr
        · rename_i l hx
          have hl : h2 l = h l := a1 l (by simp [touch, hx, D.nm])
          split at hr
          · rename_i t' sz' xs own hob
            split at hr
            · rename_i hc; simp only [Option.some.injEq] at hr; subst hr; exact ⟨rfl, j, hj, by rw [if_pos hb]; simp only [hx, hl, hob]; rw [if_pos hc]⟩
            · cases hr
          · cases hr
        · cases hr
      · cases hr)
  | len st x => exact reads rfl rfl (fun _ => rfl) (fun h2 a1 r hr => by
      cases st with
      | true =>
        simp only [evP, if_true] at hr ⊢
        split at hr
        · rename_i s hx; simp only [Option.some.injEq] at hr; subst hr; exact ⟨rfl, by simp only [hx]⟩
        · cases hr
      | false =>
        simp only [evP, Bool.false_eq_true, if_false, Option.bind_eq_some_iff, Option.some.injEq] at hr ⊢
        obtain ⟨xs, hxs, rfl⟩ := hr
        exact ⟨rfl, xs, by rw [elems_agr a1]; exact hxs, rfl⟩)
  | store m x y =>
    have : ∃ cs h1, (y.ev e).cells = some cs ∧ putAt h m cs (x.ev e) = some h1 := by
      unfold evOp at hev
      simp only [isCall, Bool.false_eq_true, if_false, evP, Option.bind_eq_some_iff] at hev
      obtain ⟨r, ⟨cs, hcs, h1, hh, _⟩, _⟩ := hev
      exact ⟨cs, h1, hcs, hh⟩
    obtain ⟨cs, h1, hcs, hp⟩ := this
    obtain ⟨j, ob, hj, rfl, _⟩ := putAt_agr (fun _ _ => rfl) hp
    refine plain_loc (r := (.und, hput h j ob)) rfl (fun _ _ _ => rfl) (by simp only [evP, hcs, hp, Option.bind_some]) (fun l hl _ => hput_ne _ _ (fun he => hl (by simp only [touch]; rw [hj, he]; simp))) (fun h2 _ a2 a3 => ?_) hev
    obtain ⟨j2, ob2, hj2, he2, hp2⟩ := putAt_agr a2 hp
    rw [hj] at hj2
    obtain rfl : j = j2 := by simpa using hj2
    have hob : ob2 = ob := by have := congrFun he2 j; rw [hput_same, hput_same] at this; exact this.symm
    subst hob
    simp only [evP, hcs, hp2, Option.bind_some]
    simp only [touch]
    rw [hj, pat_set a3]
  | app t sz by_ x y =>
    have hev0 := hev
    unfold evOp at hev
    simp only [isCall, Bool.false_eq_true, if_false, Option.bind_eq_some_iff] at hev
    obtain ⟨r, hr, _⟩ := hev
    have hr0 := hr
    simp only [evP, Option.bind_eq_some_iff] at hr
    obtain ⟨ys, hys, hr⟩ := hr
    split at hr
    · rename_i hx
      split at hr
      · rename_i hc
        simp only [Option.some.injEq] at hr
        subst hr
        have hnm : (touch e (.app t sz by_ x y)).2 = [] := by simp [touch, hx, D.nm]
        refine plain_loc rfl (fun _ _ _ => hd) hr0 (fun l _ hl => hput_ne _ _ (fun he => hl ⟨by omega, by have w8 : W8 = 8 := rfl; omega⟩)) (fun h2 a1 a2 a3 => ?_) hev0
        rw [hnm, pat_put a3]
        simp only [evP]
        rw [elems_agr a1, hys]
        simp only [Option.bind_some, hx]
        rw [if_pos hc]
      · cases hr
    · rename_i l hx
      split at hr
      · rename_i t' sz' xs hob
        split at hr
        · rename_i hc
          simp only [Option.some.injEq] at hr
          subst hr
          have hnm : (touch e (.app t sz by_ x y)).2 = [l] := by simp [touch, hx, D.nm]
          refine plain_loc rfl (fun _ _ _ => hd) hr0 (fun j hj hl => ?_) (fun h2 a1 a2 a3 => ?_) hev0
          · rw [hnm] at hj
            have n1 : j ≠ k := fun he => hl ⟨by omega, by have w8 : W8 = 8 := rfl; omega⟩
            have n2 : j ≠ l := fun he => hj (by rw [he]; simp)
            show hput (hput h l .no) k _ j = h j
            rw [hput_ne _ _ n1, hput_ne _ _ n2]
          · rw [hnm] at a2 ⊢
            rw [pat_app a3]
            simp only [evP]
            rw [elems_agr a1, hys]
            simp only [Option.bind_some, hx]
            rw [a2 l (by simp), hob]
            simp only
            rw [if_pos hc]
        · cases hr
      · cases hr
    · cases hr
  | call f xs => exact call_loc rfl rfl rfl (fun h => rfl) hd hev
  | callv x xs =>
    cases hx : x.ev e with
    | fn f caps => exact call_loc (f := f) (args := xs.map (X.ev e) ++ caps) (by simp only [target, hx]) rfl (by simp only [touch, hx]) (fun h => by simp only [okD, hx]) hd hev
    | _ => simp only [okD, hx] at hd; cases hd
  | mkmap => cases hd
  | mget z x i => cases hd
  | mput x i y => cases hd
end
end Go.Proofs.Ytpdamhhaepcffaa.AE
/-
  AE, part 17: regions whose order is drawn: any order does what the text's order does.
-/
set_option linter.unusedVariables false
set_option linter.unusedSimpArgs false
namespace Go.Proofs.Ytpdamhhaepcffaa.AE
open Go Go.RowKit
abbrev ES := Env × Hp
abbrev Tch := List Nat × List Nat
section
variable {P : Program} {md : Nat → Bool} {C : Calls1} {e e' : Env} {h h' h2 : Hp} {k n : Nat} {d : D} {x y : XO} {T U : Tch} {i j : Nat}

/-- What one operation of a region does to the blocks, and what it yields. -/
def Eff (md : Nat → Bool) (C : Calls1) (k n : Nat) (x : XO) (T : Tch) (e : Env) (h : Hp) (d : D) (h' : Hp) : Prop :=
  ∃ b, wantedD e x.g = some b ∧ ((b = true ∧ okD md C e h x.op = true ∧ touch e x.op = T ∧ evOp md C e h k n x.op = some (d, h', n)) ∨ (b = false ∧ T = ([], []) ∧ d = .und ∧ h' = h))
theorem rd_ev (he : ∀ t ∈ x.rd, e t = e' t) : (∀ y ∈ x.op.xs, y.ev e = y.ev e') ∧ wantedD e x.g = wantedD e' x.g := by
  refine ⟨fun y hy => ev_congr fun t ht => he t ?_, ?_⟩
  · exact List.mem_append.2 (.inl (List.mem_flatMap.2 ⟨y, hy, ht⟩))
  · cases hg : x.g with
    | none => rfl
    | some p =>
      obtain ⟨t, b⟩ := p
      simp only [wantedD]
      rw [he t (by simp [XO.rd, hg])]
theorem Eff.congr (he : ∀ t ∈ x.rd, e t = e' t) (hE : Eff md C k n x T e h d h') : Eff md C k n x T e' h d h' := by
  obtain ⟨h1, h2⟩ := rd_ev he
  obtain ⟨b, hb, hE⟩ := hE
  refine ⟨b, by rw [← h2]; exact hb, ?_⟩
  rcases hE with ⟨hb1, ho, ht, hv⟩ | hE
  · exact .inl ⟨hb1, by rw [← okD_congr h1]; exact ho, by rw [← touch_congr h1]; exact ht, by rw [← evOp_congr h1]; exact hv⟩
  · exact .inr hE
theorem Eff.far (hE : Eff md C k n x T e h d h') : ∀ l, l ∉ T.2 → ¬ (k ≤ l ∧ l < k + W8) → h' l = h l := by
  obtain ⟨b, hb, hE⟩ := hE
  rcases hE with ⟨hb1, ho, rfl, hv⟩ | ⟨_, _, _, rfl⟩
  · exact (evOp_loc ho hv).far
  · exact fun _ _ _ => rfl
theorem Eff.mv (hE : Eff md C k n x T e h d h') (a1 : Agr T.1 h h2) (a2 : Agr T.2 h h2) (a3 : AgN k h h2) : Eff md C k n x T e h2 d (pat T.2 k h' h2) := by
  obtain ⟨b, hb, hE⟩ := hE
  refine ⟨b, hb, ?_⟩
  rcases hE with ⟨hb1, ho, rfl, hv⟩ | ⟨hb1, rfl, hd, rfl⟩
  · obtain ⟨p1, p2⟩ := (evOp_loc ho hv).mv h2 a1 a2 a3
    exact .inl ⟨hb1, p1, rfl, p2⟩
  · exact .inr ⟨hb1, rfl, hd, pat_same a3⟩
theorem eputO_rd {dst : Option Nat} (hn : ∀ t, dst = some t → t ∉ x.rd) (d : D) : ∀ t ∈ x.rd, eputO e dst d t = e t := by
  intro t ht
  cases dst with
  | none => rfl
  | some s => exact eput_ne _ _ fun he => hn s rfl (he ▸ ht)
theorem eputO_comm {a b : Option Nat} (hn : ∀ t, a = some t → b ≠ some t) (d d' : D) : eputO (eputO e a d) b d' = eputO (eputO e b d') a d := by
  cases a with
  | none => rfl
  | some t =>
    cases b with
    | none => rfl
    | some s =>
      have hts : s ≠ t := fun he => hn t rfl (by rw [he])
      funext l
      simp only [eputO, eput]
      by_cases h1 : l = t
      · subst h1
        rw [if_pos rfl, if_neg (Ne.symm hts), if_pos rfl]
      · by_cases h2 : l = s
        · subst h2; simp [h1]
        · simp [h1, h2]
theorem apart_spec (hp : x.apart y = true) : (∀ t, x.dst = some t → t ∉ y.rd) ∧ (∀ t, x.dst = some t → y.dst ≠ some t) ∧ (∀ t, y.dst = some t → t ∉ x.rd) := by
  refine ⟨fun t ht => ?_, fun t ht => ?_, fun t ht => ?_⟩ <;> simp [XO.apart, ht] at hp
  · exact hp.1.1
  · exact hp.1.2
  · exact hp.2
theorem apartT_spec (hp : apartT T U = true) : (∀ l ∈ T.2, l ∉ U.1 ∧ l ∉ U.2) ∧ (∀ l ∈ U.2, l ∉ T.1 ∧ l ∉ T.2) := by
  simp only [apartT, Bool.and_eq_true, Bool.not_eq_true', List.any_eq_false, Bool.or_eq_true, List.contains_iff_mem, not_or] at hp
  exact ⟨hp.1, fun l hl => ⟨hp.2 l hl, fun hl' => (hp.1 l hl').2 hl⟩⟩
def NoN (T : Tch) (k : Nat) : Prop := ∀ l, (l ∈ T.1 ∨ l ∈ T.2) → ¬ (k ≤ l ∧ l < k + W8)
/-- Two neighbours change places. -/
theorem eff_comm {kx ky : Nat} (hk : kx + W8 ≤ ky ∨ ky + W8 ≤ kx) (hxy : x.apart y = true) (hT : apartT T U = true) (hn1 : NoN T ky) (hn2 : NoN U kx) {dx dy : D} {h1 h2 : Hp}
    (hx : Eff md C kx n x T e h dx h1) (hy : Eff md C ky n y U (eputO e x.dst dx) h1 dy h2) :
    ∃ h1', Eff md C ky n y U e h dy h1' ∧ Eff md C kx n x T (eputO e y.dst dy) h1' dx h2 ∧ eputO (eputO e y.dst dy) x.dst dx = eputO (eputO e x.dst dx) y.dst dy := by
  obtain ⟨p1, p2, p3⟩ := apart_spec hxy
  obtain ⟨q1, q2⟩ := apartT_spec hT
  have y0 := Eff.congr (e' := e) (fun t ht => eputO_rd p1 dx t ht) hy
  have far1 := hx.far
  have far2 := y0.far
  have b1 : Agr U.1 h1 h := fun l hl => (far1 l (fun hl' => (q1 l hl').1 hl) (hn2 l (.inl hl))).symm
  have b2 : Agr U.2 h1 h := fun l hl => (far1 l (fun hl' => (q1 l hl').2 hl) (hn2 l (.inr hl))).symm
  have b3 : AgN ky h1 h := fun l h3 h4 => (far1 l (fun hl' => hn1 l (.inr hl') ⟨h3, h4⟩) (by omega)).symm
  have y1 := y0.mv b1 b2 b3
  refine ⟨_, y1, ?_, (eputO_comm p2 dx dy).symm⟩
  have out : ∀ l, l ∉ U.2 → ¬ (ky ≤ l ∧ l < ky + W8) → pat U.2 ky h2 h l = h l := fun l h3 h4 => by
    unfold pat
    rw [if_neg (by rintro (h5 | h5); exact h3 h5; exact h4 h5)]
  have c1 : Agr T.1 h (pat U.2 ky h2 h) := fun l hl => out l (fun hl' => (q2 l hl').1 hl) (hn1 l (.inl hl))
  have c2 : Agr T.2 h (pat U.2 ky h2 h) := fun l hl => out l (fun hl' => (q2 l hl').2 hl) (hn1 l (.inr hl))
  have c3 : AgN kx h (pat U.2 ky h2 h) := fun l h3 h4 => out l (fun hl' => hn2 l (.inr hl') ⟨h3, h4⟩) (by omega)
  have x1 := (Eff.congr (e' := eputO e y.dst dy) (fun t ht => (eputO_rd p3 dy t ht).symm) hx).mv c1 c2 c3
  have hh : pat T.2 kx h1 (pat U.2 ky h2 h) = h2 := by
    funext l
    unfold pat
    by_cases hl : l ∈ T.2 ∨ (kx ≤ l ∧ l < kx + W8)
    · rw [if_pos hl]
      refine (far2 l ?_ ?_).symm
      · rintro hu
        rcases hl with hl | hl
        · exact (q1 l hl).2 hu
        · exact hn2 l (.inr hu) hl
      · rintro hu
        rcases hl with hl | hl
        · exact hn1 l (.inr hl) hu
        · omega
    · rw [if_neg hl]
      by_cases hu : l ∈ U.2 ∨ (ky ≤ l ∧ l < ky + W8)
      · rw [if_pos hu]
      · rw [if_neg hu]
        have e1 : h1 l = h l := far1 l (fun a => hl (.inl a)) (fun a => hl (.inr a))
        have e2 : h2 l = h1 l := far2 l (fun a => hu (.inl a)) (fun a => hu (.inr a))
        rw [e2, e1]
  rw [hh] at x1
  exact x1

/-- One operation of the region xs, by its number. -/
def Step (md : Nat → Bool) (C : Calls1) (k n : Nat) (xs : List XO) (ts : List Tch) (i : Nat) (s s' : ES) : Prop :=
  ∃ x d, xs[i]? = some x ∧ Eff md C (k + W8 * i) n x (ts.getD i ([], [])) s.1 s.2 d s'.2 ∧ s'.1 = eputO s.1 x.dst d
def RunT (md : Nat → Bool) (C : Calls1) (k n : Nat) (xs : List XO) (ts : List Tch) : List Nat → ES → ES → Prop
  | [], s, s' => s' = s
  | i :: r, s, s' => ∃ s1, Step md C k n xs ts i s s1 ∧ RunT md C k n xs ts r s1 s'
theorem step_comm {xs : List XO} {ts : List Tch} (hij : i ≠ j) {x y : XO} (hx : xs[i]? = some x) (hy : xs[j]? = some y) (hxy : x.apart y = true) (hT : apartT (ts.getD i ([], [])) (ts.getD j ([], [])) = true)
    (hn1 : NoN (ts.getD i ([], [])) (k + W8 * j)) (hn2 : NoN (ts.getD j ([], [])) (k + W8 * i)) {s s1 s2 : ES}
    (h1 : Step md C k n xs ts i s s1) (h2 : Step md C k n xs ts j s1 s2) : ∃ s1', Step md C k n xs ts j s s1' ∧ Step md C k n xs ts i s1' s2 := by
  obtain ⟨x', dx, hx', ex, ex2⟩ := h1
  rw [hx] at hx'; obtain rfl := Option.some.inj hx'
  obtain ⟨y', dy, hy', ey, ey2⟩ := h2
  rw [hy] at hy'; obtain rfl := Option.some.inj hy'
  have hk : k + W8 * i + W8 ≤ k + W8 * j ∨ k + W8 * j + W8 ≤ k + W8 * i := by show k + 8 * i + 8 ≤ k + 8 * j ∨ k + 8 * j + 8 ≤ k + 8 * i; omega
  rw [ex2] at ey
  obtain ⟨h1', r1, r2, r3⟩ := eff_comm hk hxy hT hn1 hn2 ex ey
  exact ⟨(eputO s.1 y.dst dy, h1'), ⟨y, dy, hy, r1, rfl⟩, ⟨x, dx, hx, r2, by rw [ey2, ex2]; exact r3.symm⟩⟩
theorem runT_of {xs : List XO} {ts : List Tch} : ∀ (l : List XO) (off : Nat) (tl : List Tch) (s s' : St), xs.drop off = l → ts.drop off = tl → s.k = n → evOpsD md C (k + W8 * off) l s = some (tl, s') →
    RunT md C k n xs ts (List.range' off l.length) (s.e, s.h) (s'.e, s'.h) ∧ s'.k = n
  | [], off, tl, s, s', hx, ht, hn, hev => by
    simp only [evOpsD, Option.some.injEq, Prod.mk.injEq] at hev
    obtain ⟨_, rfl⟩ := hev
    exact ⟨rfl, hn⟩
  | x :: r, off, tl, s, s', hx, ht, hn, hev => by
    have hxo : xs[off]? = some x := by
      have := congrArg (·[0]?) hx
      simpa using this
    have hxr : xs.drop (off + 1) = r := by
      have := congrArg List.tail hx
      simpa using this
    have hk : k + W8 * off + W8 = k + W8 * (off + 1) := by rw [Nat.mul_succ]; omega
    simp only [evOpsD, Option.bind_eq_some_iff] at hev
    obtain ⟨b, hb, hev⟩ := hev
    have htl : ∀ T tr, tl = T :: tr → ts.getD off ([], []) = T ∧ ts.drop (off + 1) = tr := by
      intro T tr hT
      rw [hT] at ht
      constructor
      · have := congrArg (·[0]?) ht
        rw [List.getD_eq_getElem?_getD]
        simp at this
        rw [this]; rfl
      · have := congrArg List.tail ht
        simpa using this
    cases b with
    | true =>
      simp only [if_true] at hev
      split at hev
      · rename_i hok
        simp only [Option.bind_eq_some_iff, Option.some.injEq, Prod.mk.injEq] at hev
        obtain ⟨⟨d, h', n'⟩, hop, ⟨tr, s2⟩, hrest, hz1, hz2⟩ := hev
        simp only at hz1 hz2 hrest
        subst hz2
        obtain ⟨t1, t2⟩ := htl _ _ hz1.symm
        have hn' : n' = s.k := (evOp_loc hok hop).nn
        rw [hk] at hrest
        obtain ⟨r1, r2⟩ := runT_of r (off + 1) tr _ s2 hxr t2 (by simp only [hn']; exact hn) hrest
        refine ⟨?_, r2⟩
        rw [List.length_cons, List.range'_succ]
        subst hn' hn
        exact ⟨_, ⟨x, d, hxo, ⟨true, hb, .inl ⟨rfl, hok, t1.symm, hop⟩⟩, rfl⟩, r1⟩
      · cases hev
    | false =>
      simp only [Bool.false_eq_true, if_false, Option.bind_eq_some_iff, Option.some.injEq, Prod.mk.injEq] at hev
      obtain ⟨⟨tr, s2⟩, hrest, hz1, hz2⟩ := hev
      simp only at hz1 hz2
      subst hz2
      obtain ⟨t1, t2⟩ := htl _ _ hz1.symm
      rw [hk] at hrest
      obtain ⟨r1, r2⟩ := runT_of r (off + 1) tr ⟨eputO s.e x.dst .und, s.h, s.k⟩ s2 hxr t2 hn hrest
      refine ⟨?_, r2⟩
      rw [List.length_cons, List.range'_succ]
      exact ⟨(eputO s.e x.dst .und, s.h), ⟨x, .und, hxo, ⟨false, hb, .inr ⟨rfl, t1, rfl, rfl⟩⟩, rfl⟩, r1⟩
end
end Go.Proofs.Ytpdamhhaepcffaa.AE
/-
  AE, part 18: regions whose order is drawn, over memory.
-/
set_option linter.unusedVariables false
set_option linter.unusedSimpArgs false
namespace Go.Proofs.Ytpdamhhaepcffaa.AE
open Go Go.RowKit
theorem Calls.ex {P : Program} {f : FuncId} {args : Array Value} {w : World} {R : Ending → World → Prop} (h : Calls P f args w R) : ∃ e w', R e w' := by
  obtain ⟨e, w', _, hr, _⟩ := h []
  exact ⟨e, w', hr⟩
theorem Oper.wp_ex {P : Program} {o : Oper} {a : Act} {w : World} {K : Act → World → Prop} (h : o.wp P a w K (fun _ _ _ => False)) : ∃ a' w', K a' w' := by
  unfold Oper.wp at h
  generalize (execOp a.eval o).run P w = r at h
  cases r with
  | ok nx w' =>
    cases nx <;> simp only [Oper.upon] at h <;> try exact ⟨_, _, h⟩
    · obtain ⟨e, w'', h⟩ := Calls.ex h
      cases e with
      | returned v => exact ⟨_, _, h⟩
      | panicked c => exact h.elim
      | outgrown => obtain ⟨_, _, h⟩ := h; exact h.elim
    · obtain ⟨v, w'', h, _⟩ := h (Frame.enter P 0 #[] .normal) []
      exact ⟨_, _, h⟩
  | halt x w' => cases x <;> simp only [Oper.upon] at h
section
variable {P : Program} {B : Nat} {w0 w w' : World} {I I' I0 : Nat → Prop} {μ μ' μ0 : Mu} {h h' : Hp} {e : Env} {d d' : D} {v : Value} {k n N : Nat} {C : Calls1} {md : Nat → Bool} {a : Act} {w1 : World} {k0 : Nat} {xs : List XO} {ts : List Tch} {s s1 : ES} {i : Nat} {U : Nat → Prop}

/-- A walk through a region whose operations U are still to come. -/
structure SimU (B : Nat) (w0 : World) (N : Nat) (I0 : Nat → Prop) (μ0 : Mu) (w1 : World) (k0 k n : Nat) (U : Nat → Prop) (s : ES) (a : Act) (w : World) : Prop where
  ex : ∃ I μ, EnvOk w I μ s.1 a.tmps ∧ Inv B w0 I μ s.2 w ∧ Go1 I0 I μ0 μ w1 w ∧ (∀ l, n ≤ l → μ l = none) ∧ (∀ l, l < k0 → μ0 l = none → μ l = none) ∧ (∀ b, I b → I0 b ∨ B ≤ b) ∧ (∀ i, U i → ∀ j, j < W8 → μ (k + W8 * i + j) = none)
  sz : a.tmps.size = N
  df : a.defers = []
  le : k0 ≤ k
  bd : ∀ i, U i → k + W8 * i + W8 ≤ n
theorem SimU.imp {U' : Nat → Prop} (hs : SimU B w0 N I0 μ0 w1 k0 k n U s a w) (hU : ∀ i, U' i → U i) : SimU B w0 N I0 μ0 w1 k0 k n U' s a w := by
  obtain ⟨⟨I, μ, h1, h2, h3, h4, h5, h6, h7⟩, hz, hd, hl, hb⟩ := hs
  exact ⟨⟨I, μ, h1, h2, h3, h4, h5, h6, fun i hi => h7 i (hU i hi)⟩, hz, hd, hl, fun i hi => hb i (hU i hi)⟩
theorem w8_apart {i j m : Nat} (hij : j ≠ i) (hm : m < W8) : k + W8 * j + m < k + W8 * i ∨ k + W8 * i + W8 ≤ k + W8 * j + m := by
  have hm : m < 8 := hm
  show k + 8 * j + m < k + 8 * i ∨ k + 8 * i + 8 ≤ k + 8 * j + m
  omega
theorem step_ok (HC : CallsOk P C) {dr : Bool} {ops : Array Oper} {o : Oper} {x : XO} (ho : ops[i]? = some o) (hc : cOper P dr ops N o = some x) (hx : xs[i]? = some x) (hst : Step md C k n xs ts i s s1) (hs : SimU B w0 N I0 μ0 w1 k0 k n U s a w) (hU : U i)
    {K : Act → World → Prop} {Q : Exit → Act → World → Prop} (hK : ∀ a' w', SimU B w0 N I0 μ0 w1 k0 k n (fun j => U j ∧ j ≠ i) s1 a' w' → K a' w') : if Region.wanted o (yielded ops a.tmps) then o.wp P a w K Q else K (a.put o.dst undef) w := by
  obtain ⟨x', d, hx', ⟨b, hb, hE⟩, hs1⟩ := hst
  rw [hx] at hx'; obtain rfl := Option.some.inj hx'
  simp only [cOper, Option.bind_eq_some_iff] at hc
  obtain ⟨xo, hxo, g, hg, hc⟩ := hc
  split at hc
  · rename_i hdst
    obtain rfl := Option.some.inj hc
    obtain ⟨⟨I, μ, h1, h2, h3, h4, h5, h6, h7⟩, hz, hd, hl, hbd⟩ := hs
    have hwant := wanted_ok h1 hg hb
    have hdst' : dstOk a.tmps.size o.dst = true := by rw [hz]; exact hdst
    rcases hE with ⟨rfl, hok, _, hop⟩ | ⟨rfl, _, rfl, hh⟩
    · rw [if_pos hwant]
      simp only at hop hs1
      refine evOp_ok HC h2 h1.ops hxo hop (h7 i hU) h4 (hbd i hU) ?_
      intro v w' I' μ' r1 i1 g1 nm1 nm2 nm3 nb
      refine hK _ _ ⟨⟨I', μ', ?_, i1, h3.trans g1, nm2, fun l hl0 hl1 => ?_, fun b hb => ?_, fun j hj m hm => ?_⟩, by rw [put_size]; exact hz, by rw [put_defers]; exact hd, hl, fun j hj => hbd j hj.1⟩
      · rw [hs1]; exact (h1.go g1).put r1 hdst'
      · have := hbd i hU
        exact nm1 l (h5 l hl0 hl1) (.inl (by omega)) (by have w8 : W8 = 8 := rfl; omega)
      · rcases nb b hb with hb | hb
        · exact h6 b hb
        · exact .inr hb
      · exact nm1 _ (h7 j hj.1 m hm) (w8_apart hj.2 hm) (by have := hbd j hj.1; omega)
    · rw [if_neg (by rw [hwant]; simp)]
      simp only at hs1
      refine hK _ _ ⟨⟨I, μ, ?_, by rw [hh]; exact h2, h3, h4, h5, h6, fun j hj m hm => h7 j hj.1 m hm⟩, by rw [put_size]; exact hz, by rw [put_defers]; exact hd, hl, fun j hj => hbd j hj.1⟩
      rw [hs1]
      exact h1.put (.im .und) hdst'
  · cases hc
/-- Data that holds names holds names that are given. -/
theorem nm_some (hr : Rp w I μ d v) {l : Nat} (hl : l ∈ d.nm) : μ l ≠ none := by
  cases hr with
  | im h => cases h <;> simp [D.nm] at hl
  | ptr h _ => simp only [D.nm, List.mem_singleton] at hl; subst hl; rw [h]; simp
  | osl h _ => simp only [D.nm, List.mem_singleton] at hl; subst hl; rw [h]; simp
  | mpr h _ => simp only [D.nm, List.mem_singleton] at hl; subst hl; rw [h]; simp
  | agg => simp [D.nm] at hl
  | tup => simp [D.nm] at hl
  | fn => simp [D.nm] at hl
theorem x_some {ta : Array Value} (he : EnvOk w I μ e ta) {x : X} (hx : x.ok = true) {l : Nat} (hl : l ∈ (x.ev e).nm) : μ l ≠ none := by
  cases x with
  | t j => exact nm_some (he j) hl
  | c d =>
    simp only [X.ok] at hx
    simp only [X.ev] at hl
    cases d <;> simp [D.nm] at hl <;> simp [D.im] at hx
theorem touch_some {ta : Array Value} (he : EnvOk w I μ e ta) {o : XOp} (ho : o.xs.all X.ok = true) {l : Nat} (hl : l ∈ (touch e o).1 ∨ l ∈ (touch e o).2) : μ l ≠ none := by
  have key : ∀ x ∈ o.xs, l ∈ (x.ev e).nm → μ l ≠ none := fun x hx => x_some he (List.all_eq_true.1 ho x hx)
  cases o <;> simp only [touch, List.not_mem_nil, or_false, false_or, or_self] at hl
  case load n ag x => exact key x (by simp [XOp.xs]) hl
  case store n x y => exact key x (by simp [XOp.xs]) hl
  case iaS sz x i => exact key x (by simp [XOp.xs]) hl
  case len st x => exact key x (by simp [XOp.xs]) hl
  case app e' sz b x y =>
    rcases hl with hl | hl
    · exact key y (by simp [XOp.xs]) hl
    · exact key x (by simp [XOp.xs]) hl
  case call f ys =>
    obtain ⟨d, hd, hl⟩ := List.mem_flatMap.1 hl
    obtain ⟨x, hx, rfl⟩ := List.mem_map.1 hd
    exact key x (by simpa [XOp.xs] using hx) hl
  case callv x ys =>
    cases hx : x.ev e with
    | fn f caps =>
      rw [hx] at hl
      simp only [List.not_mem_nil, or_false] at hl
      obtain ⟨d, hd, hl⟩ := List.mem_flatMap.1 hl
      rcases List.mem_append.1 hd with hd | hd
      · obtain ⟨y, hy, rfl⟩ := List.mem_map.1 hd
        exact key y (by simp [XOp.xs, hy]) hl
      · cases x with
        | t j =>
          have hr := he j
          simp only [X.ev] at hx
          rw [hx] at hr
          obtain ⟨vs, _, hlen, hcap⟩ := hr.fn_inv
          obtain ⟨m, hm⟩ := List.getElem?_of_mem hd
          have hlt : m < vs.length := by rw [← hlen]; exact (List.getElem?_eq_some_iff.1 hm).1
          exact nm_some (hcap m d _ hm (List.getElem?_eq_getElem hlt)) hl
        | c d' =>
          have hok := List.all_eq_true.1 ho (.c d') (by simp [XOp.xs])
          simp only [X.ev] at hx
          subst hx
          simp only [X.ok, D.im, List.isEmpty_iff] at hok
          subst hok
          cases hd
    | _ => rw [hx] at hl; simp at hl
theorem step_names {x : XO} (hx : xs[i]? = some x) (hok : x.op.xs.all X.ok = true) (hst : Step md C k n xs ts i s s1) (hs : SimU B w0 N I0 μ0 w1 k0 k n U s a w) {j : Nat} (hj : U j) : NoN (ts.getD i ([], [])) (k + W8 * j) := by
  obtain ⟨x', d, hx', ⟨b, hb, hE⟩, hs1⟩ := hst
  rw [hx] at hx'; obtain rfl := Option.some.inj hx'
  obtain ⟨⟨I, μ, h1, h2, h3, h4, h5, h6, h7⟩, _⟩ := hs
  intro l hl hr
  rcases hE with ⟨_, _, ht, _⟩ | ⟨_, ht, _, _⟩
  · rw [← ht] at hl
    refine touch_some h1 hok hl ?_
    have := h7 j hj (l - (k + W8 * j)) (by omega)
    rwa [show k + W8 * j + (l - (k + W8 * j)) = l by omega] at this
  · rw [ht] at hl; simp at hl
/-- The touch of one that stands apart from the one before is as it was. -/
theorem Step.back {j : Nat} {x y : XO} (hx : xs[i]? = some x) (hy : xs[j]? = some y) (hxy : x.apart y = true) {s2 : ES} (h1 : Step md C k n xs ts i s s1) (h2 : Step md C k n xs ts j s1 s2) :
    (∃ b, wantedD s.1 y.g = some b ∧ ((b = true ∧ touch s.1 y.op = ts.getD j ([], [])) ∨ ts.getD j ([], []) = ([], []))) := by
  obtain ⟨x', d, hx', _, hs1⟩ := h1
  rw [hx] at hx'; obtain rfl := Option.some.inj hx'
  obtain ⟨y', d2, hy', ⟨b, hb, hE⟩, _⟩ := h2
  rw [hy] at hy'; obtain rfl := Option.some.inj hy'
  obtain ⟨p1, _, _⟩ := apart_spec hxy
  have he : ∀ t ∈ y.rd, s1.1 t = s.1 t := by rw [hs1]; exact eputO_rd p1 d
  obtain ⟨e1, e2⟩ := rd_ev he
  refine ⟨b, by rw [← e2]; exact hb, ?_⟩
  rcases hE with ⟨hb1, _, ht, _⟩ | ⟨_, ht, _, _⟩
  · exact .inl ⟨hb1, by rw [← touch_congr e1]; exact ht⟩
  · exact .inr ht
theorem back_names {j : Nat} {x y : XO} (hx : xs[i]? = some x) (hy : xs[j]? = some y) (hxy : x.apart y = true) (hok : y.op.xs.all X.ok = true) {s2 : ES} (h1 : Step md C k n xs ts i s s1) (h2 : Step md C k n xs ts j s1 s2)
    (hs : SimU B w0 N I0 μ0 w1 k0 k n U s a w) (hi : U i) : NoN (ts.getD j ([], [])) (k + W8 * i) := by
  obtain ⟨b, hb, ht⟩ := Step.back hx hy hxy h1 h2
  obtain ⟨⟨I, μ, e1, h2, h3, h4, h5, h6, h7⟩, _⟩ := hs
  intro l hl hr
  rcases ht with ⟨_, ht⟩ | ht
  · rw [← ht] at hl
    refine touch_some e1 hok hl ?_
    have := h7 i hi (l - (k + W8 * i)) (by omega)
    rwa [show k + W8 * i + (l - (k + W8 * i)) = l by omega] at this
  · rw [ht] at hl; simp at hl

/-- What a bubble needs of the region. -/
structure RegOk (P : Program) (N : Nat) (ops : Array Oper) (xs : List XO) (ts : List Tch) : Prop where
  cop : ∀ (i : Nat) (x : XO), xs[i]? = some x → ∃ o, ops[i]? = some o ∧ cOper P true ops N o = some x
  len : xs.length = ops.size
  ok : ∀ (i : Nat) (x : XO), xs[i]? = some x → x.op.xs.all X.ok = true
/-- These two may change places. -/
def Free2 (xs : List XO) (ts : List Tch) (i j : Nat) : Prop := ∃ x y, xs[i]? = some x ∧ xs[j]? = some y ∧ x.apart y = true ∧ apartT (ts.getD i ([], [])) (ts.getD j ([], [])) = true
theorem bubble (HC : CallsOk P C) {ops : Array Oper} (HR : RegOk P N ops xs ts) {j : Nat} {L2 : List Nat} {s' : ES} : ∀ (L1 : List Nat) (U : Nat → Prop) (s : ES) (a : Act) (w : World), SimU B w0 N I0 μ0 w1 k0 k n U s a w → (∀ i ∈ L1, U i) → U j → L1.Nodup → (∀ i ∈ L1, i ≠ j ∧ Free2 xs ts i j) →
    RunT md C k n xs ts (L1 ++ j :: L2) s s' → ∃ s1, Step md C k n xs ts j s s1 ∧ RunT md C k n xs ts (L1 ++ L2) s1 s'
  | [], U, s, a, w, hs, hU, hj, hnd, hf, hr => hr
  | i :: L1, U, s, a, w, hs, hU, hj, hnd, hf, hr => by
    obtain ⟨sy, hsy, hr⟩ := hr
    obtain ⟨hne, x, y, hx, hy, hxy, hT⟩ := hf i (by simp)
    obtain ⟨o, ho, hco⟩ := HR.cop i x hx
    have hUi : U i := hU i (by simp)
    rw [List.nodup_cons] at hnd
    have hex : ∃ a' w', SimU B w0 N I0 μ0 w1 k0 k n (fun m => U m ∧ m ≠ i) sy a' w' := by
      have hw := step_ok HC (Q := fun _ _ _ => False) ho hco hx hsy hs hUi (K := fun a' w' => SimU B w0 N I0 μ0 w1 k0 k n (fun m => U m ∧ m ≠ i) sy a' w') (fun a' w' h => h)
      split at hw
      · exact Oper.wp_ex hw
      · exact ⟨_, _, hw⟩
    obtain ⟨a', w', hs'⟩ := hex
    obtain ⟨sz, h1, h2⟩ := bubble HC HR L1 _ sy a' w' hs' (fun m hm => ⟨hU m (by simp [hm]), fun he => hnd.1 (he ▸ hm)⟩) ⟨hj, Ne.symm hne⟩ hnd.2 (fun m hm => hf m (by simp [hm])) hr
    obtain ⟨s1, r1, r2⟩ := step_comm hne hx hy hxy hT (step_names hx (HR.ok i x hx) hsy hs hj) (back_names hx hy hxy (HR.ok j y hy) hsy h1 hs hUi) hsy h1
    exact ⟨s1, r1, ⟨sz, r2, h2⟩⟩
end
end Go.Proofs.Ytpdamhhaepcffaa.AE
/-
  AE, part 19: DrawsOk.
-/
set_option linter.unusedVariables false
set_option linter.unusedSimpArgs false
namespace Go.Proofs.Ytpdamhhaepcffaa.AE
open Go Go.RowKit
theorem masks_spec : ∀ (xs : List XO) (acc : List Nat), ∃ r, masks xs acc = acc ++ r ∧ r.length = xs.length ∧ ∀ i x, xs[i]? = some x → (acc ++ r)[acc.length + i]? = some (maskOf (acc ++ r.take i) x.bef)
  | [], acc => ⟨[], by simp [masks], rfl, fun i x h => by simp at h⟩
  | o :: q, acc => by
    obtain ⟨r, h1, h2, h3⟩ := masks_spec q (acc ++ [maskOf acc o.bef])
    refine ⟨maskOf acc o.bef :: r, by rw [masks, h1]; simp, by simp [h2], fun i x hx => ?_⟩
    cases i with
    | zero =>
      obtain rfl : o = x := by simpa using hx
      simp
    | succ i =>
      have := h3 i x (by simpa using hx)
      simp only [List.append_assoc, List.singleton_append, List.length_append, List.length_cons, List.length_nil] at this
      rw [show acc.length + (i + 1) = acc.length + (0 + 1) + i by omega, List.take_succ_cons]
      exact this
theorem maskOf_bit (acc : List Nat) {j : Nat} : ∀ (b : List Nat), (maskOf acc b).testBit j = true → ∃ p ∈ b, j = p ∨ (acc.getD p 0).testBit j = true
  | [], h => by simp [maskOf] at h
  | p :: b, h => by
    simp only [maskOf, List.foldr_cons] at h
    rw [Nat.testBit_or, Nat.testBit_or, Bool.or_eq_true, Bool.or_eq_true, Nat.testBit_two_pow] at h
    rcases h with (h | h) | h
    · exact ⟨p, by simp, .inl (by simpa using (of_decide_eq_true h).symm)⟩
    · exact ⟨p, by simp, .inr h⟩
    · obtain ⟨q, hq, hh⟩ := maskOf_bit acc b h
      exact ⟨q, by simp [hq], hh⟩
/-- Every bit of a mask is listed where the ones right before are, and the listed are closed. -/
theorem mask_listed {xs : List XO} {S : Nat → Prop} (hcl : ∀ (p : Nat) (x : XO), S p → xs[p]? = some x → ∀ q ∈ x.bef, S q) (hlt : ∀ (i : Nat) (x : XO), xs[i]? = some x → ∀ p ∈ x.bef, p < i) : ∀ (m i : Nat) (x : XO), i ≤ m → xs[i]? = some x → (∀ q ∈ x.bef, S q) → ∀ j, ((masks xs []).getD i 0).testBit j = true → S j := by
  obtain ⟨r, h1, h2, h3⟩ := masks_spec xs []
  have hM : ∀ i x, xs[i]? = some x → (masks xs []).getD i 0 = maskOf ((masks xs []).take i) x.bef := by
    intro i x hx
    have := h3 i x hx
    simp only [List.nil_append, List.length_nil, Nat.zero_add] at this h1
    rw [h1, List.getD_eq_getElem?_getD, this]
    rfl
  intro m
  induction m with
  | zero =>
    intro i x hi hx hS j hb
    rw [hM i x hx] at hb
    obtain ⟨p, hp, hh⟩ := maskOf_bit _ _ hb
    have := hlt i x hx p hp
    omega
  | succ m ih =>
    intro i x hi hx hS j hb
    rw [hM i x hx] at hb
    obtain ⟨p, hp, hh⟩ := maskOf_bit _ _ hb
    have hpi := hlt i x hx p hp
    rcases hh with rfl | hh
    · exact hS j hp
    · have hil : i < xs.length := (List.getElem?_eq_some_iff.1 hx).1
      have hxp : xs[p]? = some xs[p] := List.getElem?_eq_getElem (by omega)
      refine ih p xs[p] (by omega) hxp (fun q hq => hcl p _ (hS p hp) hxp q hq) j ?_
      rw [List.getD_eq_getElem?_getD, List.getElem?_take_of_lt hpi, ← List.getD_eq_getElem?_getD] at hh
      exact hh
theorem statD_spec {xs : List XO} (h : statD xs = true) : ∀ i x, xs[i]? = some x → x.op.xs.all X.ok = true ∧ (∀ p ∈ x.bef, p < i) ∧ ∀ j, j < i → ((masks xs []).getD i 0).testBit j = true ∨ ∀ y, xs[j]? = some y → y.apart x = true := by
  intro i x hx
  unfold statD at h
  have := List.all_eq_true.1 h i (List.mem_range.2 (List.getElem?_eq_some_iff.1 hx).1)
  rw [hx] at this
  simp only [Bool.and_eq_true, List.all_eq_true, decide_eq_true_eq, List.mem_range, Bool.or_eq_true] at this
  refine ⟨List.all_eq_true.2 this.1.1, this.1.2, fun j hj => ?_⟩
  rcases this.2 j hj with h | h
  · exact .inl h
  · refine .inr fun y hy => ?_
    rw [hy] at h
    exact h
theorem mem_mkPrs {xs : List XO} {i j : Nat} {x y : XO} (hx : xs[i]? = some x) (hy : xs[j]? = some y) (hj : j < i) (hm : ((masks xs []).getD i 0).testBit j = false) (hk : (x.op.kd = 2 ∧ y.op.kd ≠ 0) ∨ (y.op.kd = 2 ∧ x.op.kd ≠ 0)) : (j, i) ∈ mkPrs xs := by
  unfold mkPrs
  refine List.mem_flatMap.2 ⟨i, List.mem_range.2 (List.getElem?_eq_some_iff.1 hx).1, ?_⟩
  rw [hx]
  refine List.mem_flatMap.2 ⟨j, List.mem_range.2 hj, ?_⟩
  rw [hy]
  have : (!((masks xs []).getD i 0).testBit j && ((x.op.kd == 2 && y.op.kd != 0) || (y.op.kd == 2 && x.op.kd != 0))) = true := by
    rw [hm]
    rcases hk with ⟨h1, h2⟩ | ⟨h1, h2⟩ <;> simp [h1, h2]
  simp only
  rw [if_pos this]
  simp
theorem touch_kd {e : Env} (o : XOp) : (o.kd ≠ 2 → (touch e o).2 = []) ∧ (o.kd = 0 → (touch e o) = ([], [])) := by
  cases o <;> simp [XOp.kd, touch]
  split <;> rfl
section
variable {P : Program} {B : Nat} {w0 w w' : World} {I I' I0 : Nat → Prop} {μ μ' μ0 : Mu} {h h' : Hp} {e : Env} {d d' : D} {v : Value} {k n N : Nat} {C : Calls1} {md : Nat → Bool} {a : Act} {w1 : World} {k0 : Nat} {xs : List XO} {ts : List Tch} {s s1 : ES} {i : Nat} {U : Nat → Prop}
/-- What each of a run touched has its operation's kind. -/
theorem run_kd {md : Nat → Bool} : ∀ (L : List Nat) (s s' : ES), RunT md C k n xs ts L s s' → ∀ i ∈ L, ∀ x, xs[i]? = some x → (x.op.kd ≠ 2 → (ts.getD i ([], [])).2 = []) ∧ (x.op.kd = 0 → ts.getD i ([], []) = ([], []))
  | [], s, s', hr, i, hi, x, hx => by cases hi
  | m :: L, s, s', ⟨s1, hst, hr⟩, i, hi, x, hx => by
    rcases List.mem_cons.1 hi with rfl | hi
    · obtain ⟨x', d, hx', ⟨b, hb, hE⟩, _⟩ := hst
      rw [hx] at hx'; obtain rfl := Option.some.inj hx'
      rcases hE with ⟨_, _, ht, _⟩ | ⟨_, ht, _, _⟩
      · rw [← ht]; exact touch_kd _
      · rw [ht]; exact ⟨fun _ => rfl, fun _ => rfl⟩
    · exact run_kd L s1 s' hr i hi x hx
theorem apartT_of {T U : Tch} (h : (T.2 = [] ∧ U.2 = []) ∨ T = ([], []) ∨ U = ([], [])) : apartT T U = true := by
  rcases h with ⟨h1, h2⟩ | rfl | rfl
  · simp [apartT, h1, h2]
  · simp [apartT]
  · simp [apartT]
/-- All orders. -/
theorem wpAny_ok (HC : CallsOk P C) {ops : Array Oper} (HR : RegOk P N ops xs ts) (hlt : ∀ (i : Nat) (x : XO), xs[i]? = some x → ∀ p ∈ x.bef, p < i) (hbef : ∀ (i : Nat) (o : Oper) (x : XO), ops[i]? = some o → xs[i]? = some x → x.bef = befs o)
    (hfree : ∀ i j, j < i → i < xs.length → ((masks xs []).getD i 0).testBit j = false → Free2 xs ts j i) {s' : ES} {Q : Exit → Act → World → Prop} : ∀ (f : Nat) (L : List Nat) (listed : Array Bool) (s : ES) (a : Act) (w : World), L.length = f → RunT md C k n xs ts L s s' → SimU B w0 N I0 μ0 w1 k0 k n (· ∈ L) s a w → L.Pairwise (· < ·) → (∀ i ∈ L, i < ops.size) → listed.size = ops.size → (∀ i, i < ops.size → (listed.getD i true = false ↔ i ∈ L)) →
    (∀ (p : Nat) (x : XO), p ∉ L → xs[p]? = some x → ∀ q ∈ x.bef, q ∉ L) → (∀ a' w', SimU B w0 N I0 μ0 w1 k0 k n (fun _ => False) s' a' w' → Q .normal a' w') → wpAny P .any ops Q f listed a w
  | 0, L, listed, s, a, w, hf, hr, hs, hp, hb, hsz, hl, hcl, hQ => by
    obtain rfl : L = [] := List.length_eq_zero_iff.1 hf
    unfold wpAny
    refine ⟨?_, ?_⟩
    · refine List.eq_nil_iff_forall_not_mem.2 fun i hi => ?_
      obtain ⟨h1, o, ho, _⟩ := mem_ready.1 hi
      have := (hl i (Array.getElem?_eq_some_iff.1 ho).1).1 h1
      cases this
    · obtain rfl := hr
      exact hQ a w (hs.imp fun i hi => hi.elim)
  | f + 1, L, listed, s, a, w, hf, hr, hs, hp, hb, hsz, hl, hcl, hQ => by
    have bef_listed : ∀ (i : Nat) (o : Oper) (x : XO), ops[i]? = some o → xs[i]? = some x → ((∀ q ∈ x.bef, q ∉ L) ↔ ∀ e ∈ o.after, Region.binds .any e = true → listed.getD e.on false = true) := by
      intro i o x ho hx
      have hq : ∀ q, q < ops.size → (q ∉ L ↔ listed.getD q false = true) := by
        intro q hq
        rw [← hl q hq]
        rw [Array.getD_eq_getD_getElem?, Array.getD_eq_getD_getElem?, Array.getElem?_eq_getElem (by omega)]
        simp
      have hin : ∀ q ∈ x.bef, q < ops.size := fun q hq => by
        have h1 := hlt i x hx q hq
        have h2 := (Array.getElem?_eq_some_iff.1 ho).1
        omega
      rw [hbef i o x ho hx] at hin ⊢
      constructor
      · intro h e he hbd
        have hm : e.on ∈ befs o := List.mem_map.2 ⟨e, List.mem_filter.2 ⟨by simpa using he, hbd⟩, rfl⟩
        exact (hq _ (hin _ hm)).1 (h _ hm)
      · intro h q hqm
        have hqm' := hqm
        obtain ⟨e, he, rfl⟩ := List.mem_map.1 hqm
        obtain ⟨he, hbd⟩ := List.mem_filter.1 he
        exact (hq _ (hin _ hqm')).2 (h e (by simpa using he) hbd)
    unfold wpAny
    refine ⟨fun hnil => ?_, fun j hj => ?_⟩
    · -- the first of the list is ready
      exfalso
      cases L with
      | nil => simp at hf
      | cons i L =>
        have hi := hb i (by simp)
        have ho : ops[i]? = some ops[i] := Array.getElem?_eq_getElem hi
        have hi' : i < xs.length := by rw [HR.len]; exact hi
        have hx : xs[i]? = some xs[i] := List.getElem?_eq_getElem hi'
        have : i ∈ Region.ready .any ops listed := mem_ready.2 ⟨(hl i hi).2 (by simp), ops[i], ho, (bef_listed i _ _ ho hx).1 fun q hq hqL => by
          have h1 := hlt i _ hx q hq
          rcases List.mem_cons.1 hqL with rfl | h2
          · omega
          · have := (List.pairwise_cons.1 hp).1 q h2
            omega⟩
        rw [hnil] at this
        cases this
    · obtain ⟨h1, o, ho, hall⟩ := mem_ready.1 hj
      have hjs := (Array.getElem?_eq_some_iff.1 ho).1
      have hjL := (hl j hjs).1 h1
      have hjs' : j < xs.length := by rw [HR.len]; exact hjs
      have hxj : xs[j]? = some xs[j] := List.getElem?_eq_getElem hjs'
      have hbj := (bef_listed j o _ ho hxj).2 hall
      obtain ⟨L1, L2, rfl⟩ := List.append_of_mem hjL
      have hp1 := List.pairwise_append.1 hp
      have hnd : (L1 ++ j :: L2).Nodup := hp.imp (fun h => Nat.ne_of_lt h)
      have hjL1 : j ∉ L1 := fun h => by
        have := hp1.2.2 j h j (by simp)
        omega
      have hjL2 : j ∉ L2 := fun h => by
        have := (List.pairwise_cons.1 hp1.2.1).1 j h
        omega
      obtain ⟨sj, hst, hrest⟩ := bubble HC HR L1 (· ∈ L1 ++ j :: L2) s a w hs (fun i hi => by simp [hi]) (by simp) (hp1.1.imp (fun h => Nat.ne_of_lt h)) (fun i hi => by
        have hij := hp1.2.2 i hi j (by simp)
        refine ⟨by omega, hfree j i hij (by rw [HR.len]; exact hjs) ?_⟩
        cases hm : ((masks xs []).getD j 0).testBit i with
        | false => rfl
        | true =>
          exact absurd (by simp [hi] : i ∈ L1 ++ j :: L2) (mask_listed (S := fun q => q ∉ L1 ++ j :: L2) (fun p x hp hx q hq => hcl p x hp hx q hq) hlt j j _ (Nat.le_refl _) hxj hbj i hm)) hr
      obtain ⟨o', ho', hco⟩ := HR.cop j _ hxj
      rw [ho] at ho'; obtain rfl := Option.some.inj ho'
      unfold wpOp
      rw [ho]
      have step := step_ok HC (Q := Q) ho hco hxj hst hs (by simp) (K := wpAny P .any ops Q f (listed.setIfInBounds j true)) (fun a' w' hs' => by
        have mem : ∀ i, (i ∈ L1 ++ L2) ↔ (i ∈ L1 ++ j :: L2 ∧ i ≠ j) := by
          intro i
          simp only [List.mem_append, List.mem_cons]
          constructor
          · rintro (h | h)
            · exact ⟨.inl h, fun he => hjL1 (he ▸ h)⟩
            · exact ⟨.inr (.inr h), fun he => hjL2 (he ▸ h)⟩
          · rintro ⟨h | h | h, hne⟩
            · exact .inl h
            · exact absurd h hne
            · exact .inr h
        refine wpAny_ok HC HR hlt hbef hfree f (L1 ++ L2) (listed.setIfInBounds j true) sj a' w' (by simp at hf ⊢; omega) hrest (hs'.imp fun i hi => (mem i).1 hi) ?_ (fun i hi => hb i ((mem i).1 hi).1) (by simp [hsz]) (fun i hi => ?_) (fun p x hpL hx q hq => ?_) hQ
        · exact hp.sublist (List.Sublist.append (List.Sublist.refl _) (List.sublist_cons_self _ _))
        · rw [mem, ← hl i hi]
          by_cases hij : i = j
          · subst hij
            rw [Array.getD_eq_getD_getElem?, Array.getElem?_setIfInBounds_self_of_lt (by omega)]
            simp
          · rw [getD_set_ne true (Ne.symm hij)]
            simp [hij]
        · rw [mem] at hpL ⊢
          rintro ⟨hqL, hqj⟩
          by_cases hpj : p = j
          · subst hpj
            rw [hxj] at hx; obtain rfl := Option.some.inj hx
            exact hbj q hq hqL
          · exact hcl p x (fun h => hpL ⟨h, hpj⟩) hx q hq hqL)
      simp only
      split
      · rename_i hw; rw [if_pos hw] at step; exact .inl step
      · rename_i hw; rw [if_neg hw] at step; exact step
theorem cOps_get {dr : Bool} {ops : Array Oper} : ∀ {l : List Oper} {xs : List XO}, cOps P dr ops N l = some xs → xs.length = l.length ∧ ∀ (i : Nat) (x : XO), xs[i]? = some x → ∃ o : Oper, l[i]? = some o ∧ cOper P dr ops N o = some x
  | [], xs, h => by obtain rfl := Option.some.inj h; exact ⟨rfl, fun i x h => by simp at h⟩
  | o :: r, xs, h => by
    simp only [cOps, Option.bind_eq_some_iff] at h
    obtain ⟨x, hx, q, hq, he⟩ := h
    obtain rfl := Option.some.inj he
    obtain ⟨h1, h2⟩ := cOps_get hq
    refine ⟨by simp [h1], fun i y hy => ?_⟩
    cases i with
    | zero => obtain rfl : x = y := by simpa using hy
              exact ⟨o, by simp, hx⟩
    | succ i => obtain ⟨o', h3, h4⟩ := h2 i y (by simpa using hy); exact ⟨o', by simpa using h3, h4⟩
theorem cOper_bef {dr : Bool} {ops : Array Oper} {o : Oper} {x : XO} (h : cOper P dr ops N o = some x) : x.bef = befs o := by
  simp only [cOper, Option.bind_eq_some_iff] at h
  obtain ⟨xo, hxo, g, hg, h⟩ := h
  split at h
  · obtain rfl := Option.some.inj h; rfl
  · cases h
theorem drawsOk (hm : P.follows .mixedOrders = true) (md : Nat → Bool) : DrawsOk P md := by
  intro C HC B w0 N I0 μ0 w1 k0 id ops xs s z a w Q hc hst hev hprs hs hQ
  obtain ⟨hlen, hget⟩ := cOps_get hc
  have hlen' : xs.length = ops.size := by rw [hlen]; simp
  have HR : RegOk P N ops xs z.1 := ⟨fun i x hx => by obtain ⟨o, h1, h2⟩ := hget i x hx; exact ⟨o, by simpa using h1, h2⟩, hlen', fun i x hx => (statD_spec hst i x hx).1⟩
  have hev0 : evOpsD md C (s.k + W8 * 0) xs ⟨s.e, s.h, s.k + W8 * xs.length⟩ = some (z.1, z.2) := by simpa using hev
  obtain ⟨hrun, hk⟩ := runT_of (n := s.k + W8 * xs.length) (xs := xs) (ts := z.1) xs 0 z.1 _ z.2 (by simp) (by simp) rfl hev0
  have hkd := run_kd _ _ _ hrun
  refine wp_region_any hm ?_
  have hs0 : SimU B w0 N I0 μ0 w1 k0 s.k (s.k + W8 * xs.length) (· ∈ List.range' 0 xs.length) (s.e, s.h) a { w with drawn := w.drawn + 1 } := by
    obtain ⟨⟨I, μ, h1, h2, h3, h4, h5, h6, h7, h8, h9, h10⟩, hz, hd⟩ := hs
    have g : Go1 I I μ μ w { w with drawn := w.drawn + 1 } := ⟨fun _ h => h, fun _ _ => rfl, fun _ _ h => h⟩
    refine ⟨⟨I, μ, h1.go g, h2.go g (Below.drew (Below.refl _ _)) h2.lt (fun b hb _ => hb) (fun _ _ => rfl), h3.trans g, fun l hl => h4 l (by omega), h5, h7, fun i hi j hj => h4 _ (by omega)⟩, hz, hd, h6, fun i hi => ?_⟩
    have := (List.mem_range'_1.1 hi).2
    show s.k + 8 * i + 8 ≤ s.k + 8 * xs.length
    omega
  refine wpAny_ok HC HR (fun i x hx => (statD_spec hst i x hx).2.1) (fun i o x ho hx => ?_) (fun i j hji hi hm => ?_) ops.size (List.range' 0 xs.length) _ (s.e, s.h) a _ (by simp [hlen']) hrun hs0 List.pairwise_lt_range' (fun i hi => ?_) (by simp) (fun i hi => ?_) (fun p x hp hx q hq => ?_) (fun a' w' hs' => hQ a' w' ?_)
  · obtain ⟨o', h1, h2⟩ := HR.cop i x hx
    rw [ho] at h1; obtain rfl := Option.some.inj h1
    exact cOper_bef h2
  · have hxi : xs[i]? = some xs[i] := List.getElem?_eq_getElem hi
    have hxj : xs[j]? = some xs[j] := List.getElem?_eq_getElem (by omega)
    refine ⟨_, _, hxj, hxi, ?_, ?_⟩
    · rcases (statD_spec hst i _ hxi).2.2 j hji with h | h
      · rw [hm] at h; cases h
      · exact h _ hxj
    · by_cases hk2 : (xs[i].op.kd = 2 ∧ xs[j].op.kd ≠ 0) ∨ (xs[j].op.kd = 2 ∧ xs[i].op.kd ≠ 0)
      · exact List.all_eq_true.1 hprs _ (mem_mkPrs hxi hxj hji hm hk2)
      · obtain ⟨ki1, ki2⟩ := hkd i (List.mem_range'_1.2 ⟨Nat.zero_le _, by omega⟩) _ hxi
        obtain ⟨kj1, kj2⟩ := hkd j (List.mem_range'_1.2 ⟨Nat.zero_le _, by omega⟩) _ hxj
        refine apartT_of ?_
        by_cases h1 : xs[i].op.kd = 2
        · exact .inr (.inl (kj2 (Decidable.byContradiction fun h => hk2 (.inl ⟨h1, h⟩))))
        · by_cases h2 : xs[j].op.kd = 2
          · exact .inr (.inr (ki2 (Decidable.byContradiction fun h => hk2 (.inr ⟨h2, h⟩))))
          · exact .inl ⟨kj1 h2, ki1 h1⟩
  · have := (List.mem_range'_1.1 hi).2; omega
  · rw [Array.getD_eq_getD_getElem?, Array.getElem?_replicate, if_pos hi]
    simp [List.mem_range'_1, hlen', hi]
  · exact absurd (List.mem_range'_1.2 ⟨Nat.zero_le _, by have := (List.getElem?_eq_some_iff.1 hx).1; omega⟩) hp
  · obtain ⟨⟨I, μ, h1, h2, h3, h4, h5, h6, h7⟩, hz, hd, hl, hb⟩ := hs'
    exact ⟨⟨I, μ, h1, h2, h3, fun l hl => h4 l (by omega), h5, by omega, h6, fun j _ hj => by omega, by omega, fun hm => by omega⟩, hz, hd⟩
end
end Go.Proofs.Ytpdamhhaepcffaa.AE
/-
  AE, part 20: more steps change nothing; the calls without a bound of steps.
-/
set_option linter.unusedVariables false
set_option linter.unusedSimpArgs false
namespace Go.Proofs.Ytpdamhhaepcffaa.AE
open Go Go.RowKit
def CLe (C C' : Calls1) : Prop := ∀ f a h k r, C f a h k = some r → C' f a h k = some r
theorem CLe.refl (C : Calls1) : CLe C C := fun _ _ _ _ _ h => h
/-- What is finite in its calls: more calls, the same; what holds of the limit holds early. -/
structure Con (cs : Nat → Calls1) (L : Calls1) {α : Type} (F : Calls1 → Option α) : Prop where
  mo : ∀ C C', CLe C C' → ∀ r, F C = some r → F C' = some r
  co : ∀ r, F L = some r → ∃ m, F (cs m) = some r
structure Chain (cs : Nat → Calls1) (L : Calls1) : Prop where
  up : ∀ i j, i ≤ j → CLe (cs i) (cs j)
  lim : ∀ f a h k r, L f a h k = some r → ∃ m, cs m f a h k = some r
section
variable {cs : Nat → Calls1} {L : Calls1} {α β : Type} {md : Nat → Bool}
theorem Con.const (x : Option α) : Con cs L (fun _ => x) := ⟨fun _ _ _ _ h => h, fun _ h => ⟨0, h⟩⟩
theorem Con.bind (hc : Chain cs L) {F : Calls1 → Option α} {G : α → Calls1 → Option β} (hF : Con cs L F) (hG : ∀ a, Con cs L (G a)) : Con cs L (fun C => (F C).bind fun a => G a C) := by
  constructor
  · intro C C' h r hr
    simp only [Option.bind_eq_some_iff] at hr ⊢
    obtain ⟨a, ha, hr⟩ := hr
    exact ⟨a, hF.mo C C' h a ha, (hG a).mo C C' h r hr⟩
  · intro r hr
    simp only [Option.bind_eq_some_iff] at hr ⊢
    obtain ⟨a, ha, hr⟩ := hr
    obtain ⟨m1, h1⟩ := hF.co a ha
    obtain ⟨m2, h2⟩ := (hG a).co r hr
    exact ⟨max m1 m2, a, hF.mo _ _ (hc.up m1 _ (Nat.le_max_left _ _)) a h1, (hG a).mo _ _ (hc.up m2 _ (Nat.le_max_right _ _)) r h2⟩
theorem Con.ite {c : Prop} [Decidable c] {F G : Calls1 → Option α} (hF : Con cs L F) (hG : Con cs L G) : Con cs L (fun C => if c then F C else G C) := by
  by_cases h : c
  · simp only [if_pos h]; exact hF
  · simp only [if_neg h]; exact hG
theorem Con.iteB (hc : Chain cs L) {b : Calls1 → Bool} (hb1 : ∀ C C', CLe C C' → b C = true → b C' = true) (hb2 : b L = true → ∃ m, b (cs m) = true) {F : Calls1 → Option α} (hF : Con cs L F) : Con cs L (fun C => if b C then F C else none) := by
  constructor
  · intro C C' h r hr
    split at hr
    · rename_i hb
      simp only [hb1 C C' h hb, if_true]
      exact hF.mo C C' h r hr
    · cases hr
  · intro r hr
    split at hr
    · rename_i hb
      obtain ⟨m1, h1⟩ := hb2 hb
      obtain ⟨m2, h2⟩ := hF.co r hr
      refine ⟨max m1 m2, ?_⟩
      simp only [hb1 _ _ (hc.up m1 _ (Nat.le_max_left _ _)) h1, if_true]
      exact hF.mo _ _ (hc.up m2 _ (Nat.le_max_right _ _)) r h2
    · cases hr
theorem Con.calls (hc : Chain cs L) (f : Nat) (a : List D) (h : Hp) (k : Nat) : Con cs L (fun C => C f a h k) := ⟨fun _ _ h r hr => h _ _ _ _ _ hr, fun r hr => hc.lim _ _ _ _ _ hr⟩
theorem con_callP (hc : Chain cs L) (f : Nat) (a : List D) : Con cs L (fun C => callP C f a) := Con.bind hc (Con.calls hc _ _ _ _) fun _ => Con.const _
theorem con_evOp (hc : Chain cs L) (e : Env) (h : Hp) (k n : Nat) (o : XOp) : Con cs L (fun C => evOp md C e h k n o) := by
  unfold evOp
  refine Con.ite (Con.bind hc (Con.const _) fun t => Con.ite (Con.bind hc (Con.calls hc _ _ _ _) fun _ => Con.const _) (Con.bind hc (Con.const _) fun q => Con.bind hc (con_callP hc _ _) fun r => Con.const _)) (Con.const _)
theorem okD_con (hc : Chain cs L) (e : Env) (h : Hp) (o : XOp) : (∀ C C', CLe C C' → okD md C e h o = true → okD md C' e h o = true) ∧ (okD md L e h o = true → ∃ m, okD md (cs m) e h o = true) := by
  have one : ∀ (f : Nat) (args : List D), (∀ C C', CLe C C' → (!md f && ((args.all D.imA) || ((args.all isOslIm) && (((frzL (fun h d => frz 9 h d) h args).bind fun q => callP C f q.1).any fun r => r.all D.scalar)))) = true → (!md f && ((args.all D.imA) || ((args.all isOslIm) && (((frzL (fun h d => frz 9 h d) h args).bind fun q => callP C' f q.1).any fun r => r.all D.scalar)))) = true) ∧
      ((!md f && ((args.all D.imA) || ((args.all isOslIm) && (((frzL (fun h d => frz 9 h d) h args).bind fun q => callP L f q.1).any fun r => r.all D.scalar)))) = true → ∃ m, (!md f && ((args.all D.imA) || ((args.all isOslIm) && (((frzL (fun h d => frz 9 h d) h args).bind fun q => callP (cs m) f q.1).any fun r => r.all D.scalar)))) = true) := by
    intro f args
    have G : Con cs L (fun C => (frzL (fun h d => frz 9 h d) h args).bind fun q => callP C f q.1) := Con.bind hc (Con.const _) fun q => con_callP hc _ _
    constructor
    · intro C C' hC hb
      simp only [Bool.and_eq_true, Bool.or_eq_true, Option.any_eq_true] at hb ⊢
      refine ⟨hb.1, hb.2.imp id fun h => ⟨h.1, ?_⟩⟩
      obtain ⟨r, hr, hs⟩ := h.2
      exact ⟨r, G.mo C C' hC r hr, hs⟩
    · intro hb
      simp only [Bool.and_eq_true, Bool.or_eq_true, Option.any_eq_true] at hb ⊢
      rcases hb.2 with h | h
      · exact ⟨0, hb.1, .inl h⟩
      · obtain ⟨r, hr, hs⟩ := h.2
        obtain ⟨m, hm⟩ := G.co r hr
        exact ⟨m, hb.1, .inr ⟨h.1, r, hm, hs⟩⟩
  cases o
  case call f xs => exact one f _
  case callv x xs =>
    simp only [okD]
    split
    · exact one _ _
    · exact ⟨fun _ _ _ h => h, fun h => ⟨0, h⟩⟩
  all_goals exact ⟨fun _ _ _ h => h, fun h => ⟨0, h⟩⟩
theorem con_evOps (hc : Chain cs L) : ∀ (l : List XO) (k : Nat) (s : St), Con cs L (fun C => evOps md C k l s)
  | [], k, s => Con.const _
  | o :: r, k, s => by
    simp only [evOps]
    exact Con.bind hc (Con.const _) fun w => Con.ite (Con.bind hc (con_evOp hc _ _ _ _ _) fun q => con_evOps hc r _ _) (con_evOps hc r _ _)
theorem con_evOpsD (hc : Chain cs L) : ∀ (l : List XO) (k : Nat) (s : St), Con cs L (fun C => evOpsD md C k l s)
  | [], k, s => Con.const _
  | o :: r, k, s => by
    simp only [evOpsD]
    exact Con.bind hc (Con.const _) fun w => Con.ite (Con.iteB hc (okD_con hc _ _ _).1 (okD_con hc _ _ _).2 (Con.bind hc (con_evOp hc _ _ _ _ _) fun q => Con.bind hc (con_evOpsD hc r _ _) fun _ => Con.const _)) (Con.bind hc (con_evOpsD hc r _ _) fun _ => Con.const _)
theorem con_iter (hc : Chain cs L) {f : St → Calls1 → Option (Ex × St)} (hf : ∀ s, Con cs L (f s)) : ∀ (n : Nat) (s : St), Con cs L (fun C => iter (fun s => f s C) n s)
  | 0, s => Con.const _
  | n + 1, s => by
    simp only [iter]
    refine Con.bind hc (hf s) fun r => ?_
    obtain ⟨x, s1⟩ := r
    cases x with
    | nrm => exact con_iter hc hf n _
    | exit i => exact Con.const _
    | ret => exact Con.const _
theorem con_evC (hc : Chain cs L) (n : Nat) : ∀ (x : XC) (s : St), Con cs L (fun C => evC md C n x s)
  | .skip, s => Con.const _
  | .exit _, s => Con.const _
  | .ret, s => Con.const _
  | .reg draw prs ops, s => by
    simp only [evC]
    exact Con.ite (Con.bind hc (con_evOpsD hc _ _ _) fun _ => Con.const _) (Con.bind hc (con_evOps hc _ _ _) fun _ => Con.const _)
  | .seq a b, s => by
    simp only [evC]
    refine Con.bind hc (con_evC hc n a s) fun r => ?_
    obtain ⟨x, s1⟩ := r
    cases x with
    | nrm => exact con_evC hc n b _
    | exit i => exact Con.const _
    | ret => exact Con.const _
  | .cond x a b, s => by
    simp only [evC]
    exact Con.bind hc (Con.const _) fun t => Con.ite (con_evC hc n a s) (con_evC hc n b s)
  | .blk id a, s => by
    simp only [evC]
    exact Con.bind hc (con_evC hc n a s) fun r => Con.const _
  | .loop a, s => by
    simp only [evC]
    exact con_iter hc (fun s => con_evC hc n a s) n s
end
theorem evC_more (md : Nat → Bool) {C C' : Calls1} (h : CLe C C') {n : Nat} {x : XC} {s : St} {r : Ex × St} (he : evC md C n x s = some r) : evC md C' n x s = some r :=
  (con_evC (cs := fun _ => C) (L := C) ⟨fun _ _ _ => CLe.refl _, fun _ _ _ _ _ h => ⟨0, h⟩⟩ n x s).mo C C' h r he
theorem iter_more {f g : St → Option (Ex × St)} (hfg : ∀ s r, f s = some r → g s = some r) : ∀ (n n' : Nat) (s : St) (r : Ex × St), n ≤ n' → iter f n s = some r → iter g n' s = some r
  | 0, _, _, _, _, h => by cases h
  | n + 1, 0, _, _, hn, _ => by omega
  | n + 1, n' + 1, s, r, hn, h => by
    simp only [iter, Option.bind_eq_some_iff] at h ⊢
    obtain ⟨r1, hr1, h⟩ := h
    refine ⟨r1, hfg s r1 hr1, ?_⟩
    obtain ⟨x, s1⟩ := r1
    cases x with
    | nrm => exact iter_more hfg n n' s1 r (by omega) h
    | exit i => exact h
    | ret => exact h
theorem evC_fuel {md : Nat → Bool} {C : Calls1} {n n' : Nat} (hn : n ≤ n') : ∀ (x : XC) (s : St) (r : Ex × St), evC md C n x s = some r → evC md C n' x s = some r
  | .skip, s, r, h => h
  | .exit _, s, r, h => h
  | .ret, s, r, h => h
  | .reg draw prs ops, s, r, h => h
  | .seq a b, s, r, h => by
    simp only [evC, Option.bind_eq_some_iff] at h ⊢
    obtain ⟨r1, h1, h⟩ := h
    refine ⟨r1, evC_fuel hn a s r1 h1, ?_⟩
    obtain ⟨x, s1⟩ := r1
    cases x with
    | nrm => exact evC_fuel hn b s1 r h
    | exit i => exact h
    | ret => exact h
  | .cond x a b, s, r, h => by
    simp only [evC, Option.bind_eq_some_iff] at h ⊢
    obtain ⟨t, ht, h⟩ := h
    refine ⟨t, ht, ?_⟩
    cases t with
    | true => simp only [if_true] at h ⊢; exact evC_fuel hn a s r h
    | false => simp only [Bool.false_eq_true, if_false] at h ⊢; exact evC_fuel hn b s r h
  | .blk id a, s, r, h => by
    simp only [evC, Option.bind_eq_some_iff] at h ⊢
    obtain ⟨r1, h1, h⟩ := h
    exact ⟨r1, evC_fuel hn a s r1 h1, h⟩
  | .loop a, s, r, h => by
    simp only [evC] at h ⊢
    exact iter_more (fun s r h => evC_fuel hn a s r h) n n' s r hn h
section
variable {xp : Nat → Option XF} {md : Nat → Bool}
theorem runF_step : ∀ n, CLe (runF xp md n) (runF xp md (n + 1))
  | 0 => fun _ _ _ _ _ h => by cases h
  | n + 1 => by
    intro f a h k r hr
    rw [runF] at hr ⊢
    simp only [Option.bind_eq_some_iff] at hr ⊢
    obtain ⟨F, hF, hr⟩ := hr
    refine ⟨F, hF, ?_⟩
    split at hr
    · cases hr
    · rename_i hl
      rw [if_neg hl]
      simp only [Option.bind_eq_some_iff] at hr ⊢
      obtain ⟨r1, h1, hr⟩ := hr
      exact ⟨r1, evC_fuel (Nat.le_succ n) _ _ _ (evC_more md (runF_step n) h1), hr⟩
theorem runF_up : ∀ (i j : Nat), i ≤ j → CLe (runF xp md i) (runF xp md j)
  | i, j, h => by
    induction h with
    | refl => exact CLe.refl _
    | step _ ih => exact fun f a h k r hr => runF_step _ f a h k r (ih f a h k r hr)
open Classical in
/-- The calls, however many steps they take. -/
noncomputable def Lv (xp : Nat → Option XF) (md : Nat → Bool) : Calls1 := fun f a h k => if p : ∃ r : List D × Hp × Nat, ∃ n, runF xp md n f a h k = some r then some p.choose else none
theorem Lv_of {n f : Nat} {a : List D} {h : Hp} {k : Nat} {r : List D × Hp × Nat} (hr : runF xp md n f a h k = some r) : Lv xp md f a h k = some r := by
  unfold Lv
  have p : ∃ r : List D × Hp × Nat, ∃ n, runF xp md n f a h k = some r := ⟨r, n, hr⟩
  rw [dif_pos p]
  obtain ⟨m, hm⟩ := p.choose_spec
  have h1 := runF_up n (max n m) (Nat.le_max_left _ _) f a h k r hr
  have h2 := runF_up m (max n m) (Nat.le_max_right _ _) f a h k _ hm
  rw [h1] at h2
  exact h2.symm
theorem lvChain (xp : Nat → Option XF) (md : Nat → Bool) : Chain (runF xp md) (Lv xp md) := by
  refine ⟨runF_up, fun f a h k r hr => ?_⟩
  unfold Lv at hr
  split at hr
  · rename_i p
    obtain rfl := Option.some.inj hr
    exact p.choose_spec
  · cases hr
/-- A run of code. -/
def Rn (xp : Nat → Option XF) (md : Nat → Bool) (x : XC) (s : St) (Q : Ex → St → Prop) : Prop := ∃ n r, evC md (Lv xp md) n x s = some r ∧ Q r.1 r.2
theorem Lv_intro {f : Nat} {F : XF} {a ds : List D} {h h' : Hp} {k k' : Nat} (hF : xp f = some F) (ha : a.length ≤ F.nt)
    (hr : Rn xp md F.body ⟨envOf a, h, k⟩ (fun x s => (x = .nrm ∨ x = .ret) ∧ resOf s F.res = some ds ∧ s.h = h' ∧ s.k = k')) : Lv xp md f a h k = some (ds, h', k') := by
  obtain ⟨n, ⟨x, s⟩, he, hx, hres, rfl, rfl⟩ := hr
  obtain ⟨m, hm⟩ := (con_evC (lvChain xp md) n F.body _).co _ he
  have h1 := evC_fuel (Nat.le_max_left n m) _ _ _ (evC_more md (runF_up m _ (Nat.le_max_right n m)) hm)
  refine Lv_of (n := max n m + 1) ?_
  simp only [runF, hF, Option.bind_some]
  rw [if_neg (by omega), h1]
  simp only [Option.bind_some]
  rcases hx with rfl | rfl <;> simp only [hres, Option.bind_some]
theorem Fv_intro {f : Nat} {F : XF} {a res : List D} (hF : xp f = some F) (ha : a.length ≤ F.nt)
    (hr : Rn xp md F.body ⟨envOf a, fun _ => .no, 0⟩ (fun x s => (x = .nrm ∨ x = .ret) ∧ ((resOf s F.res).bind fun ds => retL s.h ds) = some res)) : callP (Lv xp md) f a = some res := by
  obtain ⟨n, ⟨x, s⟩, he, hx, hres⟩ := hr
  simp only [Option.bind_eq_some_iff] at hres
  obtain ⟨ds, hds, hret⟩ := hres
  have := Lv_intro (xp := xp) (md := md) (f := f) hF ha ⟨n, ⟨x, s⟩, he, hx, hds, rfl, rfl⟩
  unfold callP
  rw [this]
  exact hret
theorem Fv_of {n f : Nat} {a r : List D} (h : callP (runF xp md n) f a = some r) : callP (Lv xp md) f a = some r := by
  refine (con_callP (cs := fun _ => runF xp md n) (L := runF xp md n) ⟨fun _ _ _ => CLe.refl _, fun _ _ _ _ _ h => ⟨0, h⟩⟩ f a).mo _ _ ?_ r h
  exact fun f a h k r hr => Lv_of hr
theorem Fv_run {f : Nat} {a r : List D} (h : callP (Lv xp md) f a = some r) : ∃ n, callP (runF xp md n) f a = some r := (con_callP (lvChain xp md) f a).co r h
variable {s : St} {Q Q' : Ex → St → Prop} {x y : XC}
theorem Rn.mono (h : Rn xp md x s Q) (hQ : ∀ e s, Q e s → Q' e s) : Rn xp md x s Q' := by
  obtain ⟨n, r, h1, h2⟩ := h
  exact ⟨n, r, h1, hQ _ _ h2⟩
theorem rn_skip (h : Q .nrm s) : Rn xp md .skip s Q := ⟨0, (.nrm, s), rfl, h⟩
theorem rn_ret (h : Q .ret s) : Rn xp md .ret s Q := ⟨0, (.ret, s), rfl, h⟩
theorem rn_exit {i : Nat} (h : Q (.exit i) s) : Rn xp md (.exit i) s Q := ⟨0, (.exit i, s), rfl, h⟩
/-- On, if the first part ran to its end. -/
def Nx (Q : Ex → St → Prop) (K : St → Prop) : Ex → St → Prop
  | .nrm, s => K s
  | .exit i, s => Q (.exit i) s
  | .ret, s => Q .ret s
theorem rn_seq (h : Rn xp md x s (Nx Q fun s => Rn xp md y s Q)) : Rn xp md (.seq x y) s Q := by
  obtain ⟨n, ⟨ex, s1⟩, h1, h2⟩ := h
  cases ex with
  | nrm =>
    obtain ⟨m, r, h3, h4⟩ := h2
    refine ⟨max n m, r, ?_, h4⟩
    simp only [evC, evC_fuel (Nat.le_max_left n m) _ _ _ h1, Option.bind_some]
    exact evC_fuel (Nat.le_max_right n m) _ _ _ h3
  | exit i => exact ⟨n, (.exit i, s1), by simp only [evC, h1, Option.bind_some], h2⟩
  | ret => exact ⟨n, (.ret, s1), by simp only [evC, h1, Option.bind_some], h2⟩
theorem rn_cond {c : X} {t : Bool} (ht : c.ev s.e = .bool t) (h : if t then Rn xp md x s Q else Rn xp md y s Q) : Rn xp md (.cond c x y) s Q := by
  cases t with
  | true => obtain ⟨n, r, h1, h2⟩ := h; exact ⟨n, r, by simp only [evC, ht, asB, Option.bind_some, if_true]; exact h1, h2⟩
  | false => obtain ⟨n, r, h1, h2⟩ := h; exact ⟨n, r, by simp only [evC, ht, asB, Option.bind_some, Bool.false_eq_true, if_false]; exact h1, h2⟩
def Bk (id : Nat) (Q : Ex → St → Prop) : Ex → St → Prop
  | .nrm, s => Q .nrm s
  | .exit i, s => if i = id then Q .nrm s else Q (.exit i) s
  | .ret, s => Q .ret s
theorem rn_blk {id : Nat} (h : Rn xp md x s (Bk id Q)) : Rn xp md (.blk id x) s Q := by
  obtain ⟨n, ⟨ex, s1⟩, h1, h2⟩ := h
  cases ex with
  | nrm => exact ⟨n, (.nrm, s1), by simp only [evC, h1, Option.bind_some], h2⟩
  | ret => exact ⟨n, (.ret, s1), by simp only [evC, h1, Option.bind_some], h2⟩
  | exit i =>
    simp only [Bk] at h2
    by_cases hi : i = id
    · rw [if_pos hi] at h2
      exact ⟨n, (.nrm, s1), by simp only [evC, h1, Option.bind_some]; rw [if_pos hi], h2⟩
    · rw [if_neg hi] at h2
      exact ⟨n, (.exit i, s1), by simp only [evC, h1, Option.bind_some]; rw [if_neg hi], h2⟩
theorem rn_reg {prs : List (Nat × Nat)} {ops : List XO} {s' : St} (he : evOps md (Lv xp md) s.k ops ⟨s.e, s.h, s.k + W8 * ops.length⟩ = some s') (h : Q .nrm s') : Rn xp md (.reg false prs ops) s Q :=
  ⟨0, (.nrm, s'), by simp only [evC, he, Bool.false_eq_true, if_false, Option.bind_some], h⟩
theorem rn_regD {prs : List (Nat × Nat)} {ops : List XO} {z : List Tch × St} (he : evOpsD md (Lv xp md) s.k ops ⟨s.e, s.h, s.k + W8 * ops.length⟩ = some z) (hp : prsOk z.1 prs = true) (h : Q .nrm z.2) : Rn xp md (.reg true prs ops) s Q :=
  ⟨0, (.nrm, z.2), by simp only [evC, he, if_true, Option.bind_some, hp], h⟩
/-- One round, then the rest. -/
theorem rn_round (h : Rn xp md x s (Nx Q fun s => Rn xp md (.loop x) s Q)) : Rn xp md (.loop x) s Q := by
  obtain ⟨n, ⟨ex, s1⟩, h1, h2⟩ := h
  cases ex with
  | nrm =>
    obtain ⟨m, r, h3, h4⟩ := h2
    refine ⟨max n m + 1, r, ?_, h4⟩
    simp only [evC] at h3 ⊢
    simp only [iter, evC_fuel (show n ≤ max n m + 1 by omega) _ _ _ h1, Option.bind_some]
    exact iter_more (fun s r h => evC_fuel (show m ≤ max n m + 1 by omega) _ _ _ h) m (max n m) s1 r (by omega) h3
  | exit i => exact ⟨n + 1, (.exit i, s1), by simp only [evC, iter, evC_fuel (Nat.le_succ n) _ _ _ h1, Option.bind_some], h2⟩
  | ret => exact ⟨n + 1, (.ret, s1), by simp only [evC, iter, evC_fuel (Nat.le_succ n) _ _ _ h1, Option.bind_some], h2⟩
/-- A loop: I says what holds at the start of round j; at most N rounds. -/
theorem rn_loop (N : Nat) (I : Nat → St → Prop) {j : Nat} (h0 : I j s) (hj : j ≤ N) (hr : ∀ j s, j ≤ N → I j s → Rn xp md x s (Nx Q fun s' => j < N ∧ I (j + 1) s')) : Rn xp md (.loop x) s Q := by
  obtain ⟨d, hd⟩ : ∃ d, N = j + d := ⟨N - j, by omega⟩
  induction d generalizing j s with
  | zero =>
    refine rn_round ((hr j s hj h0).mono ?_)
    intro e s h
    cases e with
    | nrm => have := h.1; omega
    | exit i => exact h
    | ret => exact h
  | succ d ih =>
    refine rn_round ((hr j s hj h0).mono ?_)
    intro e s h
    cases e with
    | nrm => exact ih h.2 (by have := h.1; omega) (by omega)
    | exit i => exact h
    | ret => exact h
end
end Go.Proofs.Ytpdamhhaepcffaa.AE
/-
  AE, part 21: rules to evaluate regions by rewriting.
-/
set_option linter.unusedVariables false
set_option linter.unusedSimpArgs false
namespace Go.Proofs.Ytpdamhhaepcffaa.AE
open Go Go.RowKit
section
variable {xp : Nat → Option XF} {md : Nat → Bool} {e : Env} {h h' : Hp} {k i n : Nat} {d : D} {b : List Nat} {r : List XO} {K : St → Prop} {α β : Type}
/-- A yield, if any, of which Q holds. -/
def Ys (x : Option α) (Q : α → Prop) : Prop := ∃ a, x = some a ∧ Q a
theorem ys_some {a : α} {Q : α → Prop} : Ys (some a) Q ↔ Q a := ⟨fun ⟨_, h, q⟩ => (by cases h; exact q), fun q => ⟨a, rfl, q⟩⟩
theorem ys_none {Q : α → Prop} : Ys none Q ↔ False := ⟨fun ⟨_, h, _⟩ => (by cases h), False.elim⟩
theorem ys_bind {x : Option β} {f : β → Option α} {Q : α → Prop} : Ys (x.bind f) Q ↔ Ys x fun a => Ys (f a) Q := by
  cases x with
  | none => exact ⟨fun ⟨_, h, _⟩ => (by cases h), fun ⟨_, h, _⟩ => (by cases h)⟩
  | some a => rw [ys_some]; exact Iff.rfl
theorem ys_ite {c : Prop} [Decidable c] {x y : Option α} {Q : α → Prop} : Ys (if c then x else y) Q ↔ if c then Ys x Q else Ys y Q := by split <;> exact Iff.rfl
theorem ys_pos {c : Prop} [Decidable c] (hc : c) {x y : Option α} {Q : α → Prop} : Ys (if c then x else y) Q ↔ Ys x Q := by rw [if_pos hc]
theorem ys_neg {c : Prop} [Decidable c] (hc : ¬ c) {x y : Option α} {Q : α → Prop} : Ys (if c then x else y) Q ↔ Ys y Q := by rw [if_neg hc]
/-- The operations of a region from number i / 8 on. -/
def RO (xp : Nat → Option XF) (md : Nat → Bool) (k i : Nat) (l : List XO) (e : Env) (h : Hp) (n : Nat) (K : St → Prop) : Prop := Ys (evOps md (Lv xp md) (k + i) l ⟨e, h, n⟩) K
theorem ro_nil : RO xp md k i [] e h n K ↔ K ⟨e, h, n⟩ := ys_some
theorem ro_cons {dst : Option Nat} {g : Option (Nat × Bool)} {op : XOp} : RO xp md k i (⟨dst, g, op, b⟩ :: r) e h n K ↔
    Ys (wantedD e g) fun w => if w then Ys (evOp md (Lv xp md) e h (k + i) n op) fun q => RO xp md k (i + 8) r (eputO e dst q.1) q.2.1 q.2.2 K else RO xp md k (i + 8) r (eputO e dst .und) h n K := by
  unfold RO
  simp only [evOps, ys_bind]
  constructor
  · rintro ⟨w, hw, q⟩
    refine ⟨w, hw, ?_⟩
    cases w with
    | true => simp only [if_true, ys_bind] at q ⊢; exact q
    | false => simp only [Bool.false_eq_true, if_false] at q ⊢; exact q
  · rintro ⟨w, hw, q⟩
    refine ⟨w, hw, ?_⟩
    cases w with
    | true => simp only [if_true, ys_bind] at q ⊢; exact q
    | false => simp only [Bool.false_eq_true, if_false] at q ⊢; exact q
/-- No guard, a plain operation. -/
theorem ro_p {dst : Option Nat} {op : XOp} (hc : isCall op = false) : RO xp md k i (⟨dst, none, op, b⟩ :: r) e h n K ↔ Ys (evP e h (k + i) op) fun q => RO xp md k (i + 8) r (eputO e dst q.1) q.2 n K := by
  rw [ro_cons]
  simp only [wantedD, ys_some, if_true]
  unfold evOp
  simp only [hc, Bool.false_eq_true, if_false, ys_bind, ys_some]
/-- A call by value. -/
theorem ev_call {f : Nat} {xs : List X} (hm : md f = false) {Q : D × Hp × Nat → Prop} : Ys (evOp md (Lv xp md) e h k n (.call f xs)) Q ↔ Ys (frzL (fun h d => frz 9 h d) h (xs.map (X.ev e))) fun q => Ys (callP (Lv xp md) f q.1) fun rs =>
    if rs.all D.scalar then Q (one rs, h, n) else if rs.length ≤ 8 then Q (one (takeIn q.2 k rs).1, (takeIn q.2 k rs).2, n) else False := by
  unfold evOp
  simp only [isCall, if_true, target, Option.bind_some, hm, Bool.false_eq_true, if_false, ys_bind]
  constructor
  · rintro ⟨q, hq, rs, hr, a, ha, hQ⟩
    refine ⟨q, hq, rs, hr, ?_⟩
    split at ha
    · rename_i hs; simp only [hs, if_true]; cases ha; exact hQ
    · rename_i hs
      simp only [hs, Bool.false_eq_true, if_false]
      split at ha
      · rename_i hl; have hl : rs.length ≤ 8 := hl; simp only [hl, if_true]; cases ha; exact hQ
      · cases ha
  · rintro ⟨q, hq, rs, hr, hQ⟩
    refine ⟨q, hq, rs, hr, ?_⟩
    split at hQ
    · rename_i hs; rw [if_pos hs]; exact ⟨_, rfl, hQ⟩
    · rename_i hs
      rw [if_neg hs]
      split at hQ
      · rename_i hl; rw [if_pos (show rs.length ≤ W8 from hl)]; exact ⟨_, rfl, hQ⟩
      · exact hQ.elim
theorem ev_callv {f : Nat} {caps : List D} {x : X} {xs : List X} (hx : x.ev e = .fn f caps) (hm : md f = false) {Q : D × Hp × Nat → Prop} : Ys (evOp md (Lv xp md) e h k n (.callv x xs)) Q ↔ Ys (frzL (fun h d => frz 9 h d) h (xs.map (X.ev e) ++ caps)) fun q => Ys (callP (Lv xp md) f q.1) fun rs =>
    if rs.all D.scalar then Q (one rs, h, n) else if rs.length ≤ 8 then Q (one (takeIn q.2 k rs).1, (takeIn q.2 k rs).2, n) else False := by
  have : evOp md (Lv xp md) e h k n (.callv x xs) = evOp md (Lv xp md) e h k n (.call f (xs ++ caps.map X.c)) := by
    unfold evOp
    simp only [isCall, if_true, target, hx, Option.bind_some, hm, List.map_append, List.map_map]
    have : caps.map (X.ev e ∘ X.c) = caps := by
      rw [show (X.ev e ∘ X.c) = id from rfl]; simp
    rw [this]
  rw [this, ev_call hm]
  simp only [List.map_append, List.map_map]
  have : caps.map (X.ev e ∘ X.c) = caps := by
    rw [show (X.ev e ∘ X.c) = id from rfl]; simp
  rw [this]
theorem ev_callE {f : Nat} {caps : List D} {x : X} {xs : List X} (hx : x.ev e = .fn f caps) (hm : md f = true) {Q : D × Hp × Nat → Prop} : Ys (evOp md (Lv xp md) e h k n (.callv x xs)) Q ↔ Ys (Lv xp md f (xs.map (X.ev e) ++ caps) h n) fun r => Q (one r.1, r.2.1, r.2.2) := by
  unfold evOp
  simp only [isCall, if_true, target, hx, Option.bind_some, hm, ys_bind, ys_some]
theorem ro_call {dst : Option Nat} {f : Nat} {xs : List X} (hm : md f = false) : RO xp md k i (⟨dst, none, .call f xs, b⟩ :: r) e h n K ↔ Ys (frzL (fun h d => frz 9 h d) h (xs.map (X.ev e))) fun q => Ys (callP (Lv xp md) f q.1) fun rs =>
    if rs.all D.scalar then RO xp md k (i + 8) r (eputO e dst (one rs)) h n K else if rs.length ≤ 8 then RO xp md k (i + 8) r (eputO e dst (one (takeIn q.2 (k + i) rs).1)) (takeIn q.2 (k + i) rs).2 n K else False := by
  rw [ro_cons]
  simp only [wantedD, ys_some, if_true]
  rw [ev_call hm]
/-- Guards. -/
theorem ro_g {dst : Option Nat} {g : Nat} {gb c : Bool} {op : XOp} (hg : e g = .bool c) : RO xp md k i (⟨dst, some (g, gb), op, b⟩ :: r) e h n K ↔ if c = gb then RO xp md k i (⟨dst, none, op, b⟩ :: r) e h n K else RO xp md k (i + 8) r (eputO e dst .und) h n K := by
  rw [ro_cons, ro_cons]
  simp only [wantedD, hg, ys_some]
  cases c <;> cases gb <;> simp
theorem ro_gu {dst : Option Nat} {g : Nat} {gb : Bool} {op : XOp} (hg : e g = .und) : RO xp md k i (⟨dst, some (g, gb), op, b⟩ :: r) e h n K ↔ RO xp md k (i + 8) r (eputO e dst .und) h n K := by
  rw [ro_cons]
  simp only [wantedD, hg, ys_some]
  simp
theorem rn_r {prs : List (Nat × Nat)} {ops : List XO} {Q : Ex → St → Prop} (hh : RO xp md k 0 ops e h (k + 8 * ops.length) fun s => Q .nrm s) : Rn xp md (.reg false prs ops) ⟨e, h, k⟩ Q := by
  obtain ⟨s', h1, h2⟩ := hh
  exact rn_reg (by simpa using h1) h2
/-! drawn regions -/
def RD (xp : Nat → Option XF) (md : Nat → Bool) (k i : Nat) (l : List XO) (e : Env) (h : Hp) (n : Nat) (ts : List Tch) (K : List Tch → St → Prop) : Prop := Ys (evOpsD md (Lv xp md) (k + i) l ⟨e, h, n⟩) fun z => K (ts.reverse ++ z.1) z.2
variable {KD : List Tch → St → Prop} {ts : List Tch}
theorem rd_nil : RD xp md k i [] e h n ts KD ↔ KD ts.reverse ⟨e, h, n⟩ := by
  unfold RD
  simp only [evOpsD, ys_some, List.append_nil]
theorem rd_cons {dst : Option Nat} {g : Option (Nat × Bool)} {op : XOp} : RD xp md k i (⟨dst, g, op, b⟩ :: r) e h n ts KD ↔
    Ys (wantedD e g) fun w => if w then okD md (Lv xp md) e h op = true ∧ Ys (evOp md (Lv xp md) e h (k + i) n op) fun q => RD xp md k (i + 8) r (eputO e dst q.1) q.2.1 q.2.2 (touch e op :: ts) KD else RD xp md k (i + 8) r (eputO e dst .und) h n (([], []) :: ts) KD := by
  have hk : k + (i + 8) = k + i + W8 := rfl
  have hl : ∀ (t : Tch) (z : List Tch × St), KD (ts.reverse ++ (t :: z.1)) z.2 = KD ((t :: ts).reverse ++ z.1) z.2 := by intro t z; simp
  unfold RD
  simp only [evOpsD, ys_bind]
  constructor
  · rintro ⟨w, hw, q⟩
    refine ⟨w, hw, ?_⟩
    cases w with
    | true =>
      simp only [if_true] at q ⊢
      split at q
      · rename_i hok
        refine ⟨hok, ?_⟩
        simp only [ys_bind, ys_some] at q
        simpa only [hl, hk] using q
      · obtain ⟨_, h, _⟩ := q; cases h
    | false =>
      simp only [Bool.false_eq_true, if_false] at q ⊢
      simp only [ys_bind, ys_some] at q
      simpa only [hl, hk] using q
  · rintro ⟨w, hw, q⟩
    refine ⟨w, hw, ?_⟩
    cases w with
    | true =>
      simp only [if_true] at q ⊢
      obtain ⟨hok, q⟩ := q
      rw [if_pos hok]
      simp only [ys_bind, ys_some]
      simpa only [hl, hk] using q
    | false =>
      simp only [Bool.false_eq_true, if_false] at q ⊢
      simp only [ys_bind, ys_some]
      simpa only [hl, hk] using q
theorem rd_p {dst : Option Nat} {op : XOp} (hc : isCall op = false) : RD xp md k i (⟨dst, none, op, b⟩ :: r) e h n ts KD ↔ okD md (Lv xp md) e h op = true ∧ Ys (evP e h (k + i) op) fun q => RD xp md k (i + 8) r (eputO e dst q.1) q.2 n (touch e op :: ts) KD := by
  rw [rd_cons]
  simp only [wantedD, ys_some, if_true]
  unfold evOp
  simp only [hc, Bool.false_eq_true, if_false, ys_bind, ys_some]
theorem rd_call {dst : Option Nat} {f : Nat} {xs : List X} (hm : md f = false) : RD xp md k i (⟨dst, none, .call f xs, b⟩ :: r) e h n ts KD ↔ okD md (Lv xp md) e h (.call f xs) = true ∧ Ys (frzL (fun h d => frz 9 h d) h (xs.map (X.ev e))) fun q => Ys (callP (Lv xp md) f q.1) fun rs =>
    if rs.all D.scalar then RD xp md k (i + 8) r (eputO e dst (one rs)) h n (touch e (.call f xs) :: ts) KD else if rs.length ≤ 8 then RD xp md k (i + 8) r (eputO e dst (one (takeIn q.2 (k + i) rs).1)) (takeIn q.2 (k + i) rs).2 n (touch e (.call f xs) :: ts) KD else False := by
  rw [rd_cons]
  simp only [wantedD, ys_some, if_true]
  rw [ev_call hm]
theorem rd_g {dst : Option Nat} {g : Nat} {gb c : Bool} {op : XOp} (hg : e g = .bool c) : RD xp md k i (⟨dst, some (g, gb), op, b⟩ :: r) e h n ts KD ↔ if c = gb then RD xp md k i (⟨dst, none, op, b⟩ :: r) e h n ts KD else RD xp md k (i + 8) r (eputO e dst .und) h n (([], []) :: ts) KD := by
  rw [rd_cons, rd_cons]
  simp only [wantedD, hg, ys_some]
  cases c <;> cases gb <;> simp
theorem rd_gu {dst : Option Nat} {g : Nat} {gb : Bool} {op : XOp} (hg : e g = .und) : RD xp md k i (⟨dst, some (g, gb), op, b⟩ :: r) e h n ts KD ↔ RD xp md k (i + 8) r (eputO e dst .und) h n (([], []) :: ts) KD := by
  rw [rd_cons]
  simp only [wantedD, hg, ys_some]
  simp
theorem rn_d {prs : List (Nat × Nat)} {ops : List XO} {Q : Ex → St → Prop} (hh : RD xp md k 0 ops e h (k + 8 * ops.length) [] fun ts s => prsOk ts prs = true ∧ Q .nrm s) : Rn xp md (.reg true prs ops) ⟨e, h, k⟩ Q := by
  obtain ⟨z, h1, h2, h3⟩ := hh
  exact rn_regD (by simpa using h1) (by simpa using h2) h3
theorem apartT_rr {a b : List Nat} : apartT (a, []) (b, []) = true := by simp [apartT]
theorem apartT_l {t : Tch} : apartT ([], []) t = true := by simp [apartT]
theorem apartT_rl {t : Tch} : apartT t ([], []) = true := by simp [apartT]
theorem apartT_rw {a b : Nat} (h : a ≠ b) : apartT ([a], []) ([], [b]) = true := by simp [apartT]; omega
theorem apartT_wr {a b : Nat} (h : a ≠ b) : apartT ([], [a]) ([b], []) = true := by simp [apartT]; omega
theorem apartT_ww {a b : Nat} (h : a ≠ b) : apartT ([], [a]) ([], [b]) = true := by simp [apartT]; omega
theorem prsOk_nil {ts : List Tch} : prsOk ts [] = true := rfl
theorem prsOk_cons {ts : List Tch} {p : Nat × Nat} {l : List (Nat × Nat)} : prsOk ts (p :: l) = (apartT (ts.getD p.1 ([], [])) (ts.getD p.2 ([], [])) && prsOk ts l) := rfl
/-! reading -/
theorem eput_at (e : Env) (k : Nat) (d : D) (j : Nat) : eput e k d j = if j = k then d else e j := rfl
theorem wrapN {n : Int} (h1 : -9223372036854775808 ≤ n) (h2 : n < 9223372036854775808) : IntKind.i64.wrap n = n := by
  simp only [IntKind.wrap, show IntKind.i64.bits = 64 from rfl, show IntKind.i64.signed = true from rfl, Bool.true_and, decide_eq_true_eq]
  split <;> omega
end
end Go.Proofs.Ytpdamhhaepcffaa.AE
