/-
  AE, part 15: regions, code, functions.
-/
import Derived.Test.YtbpccdengeakgaaAE14
import Derived.Test.YtbpccdengeakgaaAEF
set_option linter.unusedVariables false
set_option linter.unusedSimpArgs false
namespace Go.Proofs.Ytbpccdengeakgaa.AE
open Go Go.RowKit
def cG (ops : Array Oper) : Option (Nat × Bool) → Option (Option (Nat × Bool))
  | none => some none
  | some (j, b) => ((ops[j]?).bind (·.dst)).bind fun t => some (some (t, b))
def befs (o : Oper) : List Nat := (o.after.toList.filter (Region.binds .any)).map (·.on)
def dstOk (N : Nat) : Option Nat → Bool
  | none => true
  | some t => decide (t < N)
def cOper (P : Program) (dr : Bool) (ops : Array Oper) (N : Nat) (o : Oper) : Option XO := (cOp P dr o.op).bind fun xo => (cG ops o.guard).bind fun g => if dstOk N o.dst then some ⟨o.dst, g, xo, befs o⟩ else none
def cOps (P : Program) (dr : Bool) (ops : Array Oper) (N : Nat) : List Oper → Option (List XO)
  | [] => some []
  | o :: r => (cOper P dr ops N o).bind fun x => (cOps P dr ops N r).bind fun q => some (x :: q)
def cCode (P : Program) (N : Nat) : Code → Option XC
  | .skip => some .skip
  | .region _ ops draw => (cOps P draw ops N ops.toList).bind fun xs => if draw then (if statD xs then some (.reg true (mkPrs xs) xs) else none) else some (.reg false [] xs)
  | .seq a b => (cCode P N a).bind fun x => (cCode P N b).bind fun y => some (.seq x y)
  | .cond c a b => (cX c).bind fun c => (cCode P N a).bind fun x => (cCode P N b).bind fun y => some (.cond c x y)
  | .block id a => (cCode P N a).bind fun x => some (.blk id x)
  | .loop a => (cCode P N a).bind fun x => some (.loop x)
  | .exit id => some (.exit id)
  | .ret => some .ret
  | _ => none
def cRes (P : Program) : List ResultVar → Option (List (Nat × Option (Nat × Bool)))
  | [] => some []
  | .tmp t :: r => (cRes P r).bind fun q => some ((t, none) :: q)
  | .cell a t :: r => (szT P t).bind fun n => (agT P t).bind fun ag => (cRes P r).bind fun q => some ((a, some (n, ag)) :: q)
def cFn (P : Program) (fn : Func) : Option XF := fn.body.bind fun c => if fn.name == "runtime.NumGoroutine" then none else (cCode P fn.ntmps c).bind fun b => (cRes P fn.results.toList).bind fun r => some ⟨fn.ntmps, b, r⟩

section
variable {P : Program} {B : Nat} {w0 w w' : World} {I I' : Nat → Prop} {μ μ' : Mu} {h h' : Hp} {e : Env} {d d' : D} {v : Value} {k n n' N : Nat} {C : Calls1} {md : Nat → Bool} {a : Act}
theorem getD_some {ts : Array Value} {t : Nat} {v : Value} (h : ts.getD t undef = v) (hv : v ≠ undef) : ts[t]? = some v := by
  rw [Array.getD_eq_getD_getElem?] at h
  cases hq : ts[t]? with
  | none => rw [hq] at h; exact absurd h.symm hv
  | some u => rw [hq] at h; exact congrArg some h
theorem wanted_ok (he : EnvOk w I μ e a.tmps) {ops : Array Oper} {o : Oper} {g : Option (Nat × Bool)} (hg : cG ops o.guard = some g) {b : Bool} (hw : wantedD e g = some b) : Region.wanted o (yielded ops a.tmps) = b := by
  cases hgd : o.guard with
  | none =>
    rw [hgd] at hg
    obtain rfl := Option.some.inj hg
    have : b = true := by simpa [wantedD] using hw.symm
    subst this
    simp [Region.wanted, hgd]
  | some p =>
    obtain ⟨j, b0⟩ := p
    rw [hgd] at hg
    simp only [cG, Option.bind_eq_some_iff, Option.some.injEq] at hg
    obtain ⟨t, ht, rfl⟩ := hg
    simp only [wantedD] at hw
    have hr := he t
    have hb : (ops[j]?).bind (·.dst) = some t := by simpa [Option.bind_eq_some_iff] using ht
    split at hw
    · rename_i c hc
      obtain rfl := Option.some.inj hw
      rw [hc] at hr
      have h1 := getD_some hr.bool_inv (by simp [undef])
      simp [Region.wanted, hgd, yielded, hb, h1]
    · rename_i hc
      obtain rfl := Option.some.inj hw
      rw [hc] at hr
      have h1 : a.tmps.getD t undef = undef := by
        generalize a.tmps.getD t undef = u at hr
        cases hr with | im hm => cases hm; rfl
      have h2 : yielded ops a.tmps j = none := by
        simp only [yielded, hb, Option.bind_some]
        rw [Array.getD_eq_getD_getElem?] at h1
        cases hq : a.tmps[t]? with
        | none => rfl
        | some u => rw [hq] at h1; simp only [Option.getD_some] at h1; subst h1; rfl
      simp [Region.wanted, hgd, h2]
    · cases hw
theorem EnvOk.put (he : EnvOk w I μ e a.tmps) {dst : Option Nat} (hv : Rp w I μ d v) (hd : dstOk a.tmps.size dst = true) : EnvOk w I μ (eputO e dst d) (a.put dst v).tmps := by
  cases dst with
  | none => exact he
  | some t =>
    have ht : t < a.tmps.size := by simpa [dstOk] using hd
    intro j
    by_cases hj : j = t
    · subst hj
      simp only [eputO, eput_same, Act.put]
      rw [Array.getD_eq_getD_getElem?, Array.getElem?_setIfInBounds_self_of_lt ht]
      exact hv
    · simp only [eputO, Act.put]
      rw [eput_ne _ _ hj, Array.getD_eq_getD_getElem?, Array.getElem?_setIfInBounds_ne (Ne.symm hj), ← Array.getD_eq_getD_getElem?]
      exact he j
theorem EnvOk.go (g : Go1 I I' μ μ' w w') {ts : Array Value} (he : EnvOk w I μ e ts) : EnvOk w' I' μ' e ts := fun k => (he k).go g
theorem put_size (a : Act) (dst : Option Nat) (v : Value) : (a.put dst v).tmps.size = a.tmps.size := by cases dst <;> simp [Act.put]
theorem put_defers (a : Act) (dst : Option Nat) (v : Value) : (a.put dst v).defers = a.defers := by cases dst <;> rfl

/-- The state of a walk that began at I0, μ0, w1 with names below k0; k .. k + m: names kept for the rest of a region. -/
structure Sim (B : Nat) (w0 : World) (N : Nat) (I0 : Nat → Prop) (μ0 : Mu) (w1 : World) (k0 : Nat) (k m : Nat) (s : St) (a : Act) (w : World) : Prop where
  ex : ∃ I μ, EnvOk w I μ s.e a.tmps ∧ Inv B w0 I μ s.h w ∧ Go1 I0 I μ0 μ w1 w ∧ (∀ l, s.k ≤ l → μ l = none) ∧ (∀ l, l < k0 → μ0 l = none → μ l = none) ∧ k0 ≤ s.k ∧ (∀ b, I b → I0 b ∨ B ≤ b) ∧ (∀ j, k ≤ j → j < k + m → μ j = none) ∧ k + m ≤ s.k ∧ (0 < m → k0 ≤ k)
  sz : a.tmps.size = N
  df : a.defers = []
variable {I0 : Nat → Prop} {μ0 : Mu} {w1 : World} {k0 m : Nat}
theorem Sim.less {s : St} (hs : Sim B w0 N I0 μ0 w1 k0 k m s a w) : Sim B w0 N I0 μ0 w1 k0 0 0 s a w := by
  obtain ⟨⟨I, μ, h1, h2, h3, h4, h5, h6, h7, h8, h9, h10⟩, hz, hd⟩ := hs
  exact ⟨⟨I, μ, h1, h2, h3, h4, h5, h6, h7, fun j _ hj => by omega, by omega, fun hm => by omega⟩, hz, hd⟩
theorem Sim.reg {s : St} (hs : Sim B w0 N I0 μ0 w1 k0 0 0 s a w) (m : Nat) : Sim B w0 N I0 μ0 w1 k0 s.k m ⟨s.e, s.h, s.k + m⟩ a w := by
  obtain ⟨⟨I, μ, h1, h2, h3, h4, h5, h6, h7, h8, h9, h10⟩, hz, hd⟩ := hs
  exact ⟨⟨I, μ, h1, h2, h3, fun l hl => h4 l (by simp at hl; omega), h5, by simp; omega, h7, fun j hj _ => h4 j hj, Nat.le_refl _, fun _ => h6⟩, hz, hd⟩
theorem evOps_ok (HC : CallsOk P C) {dr : Bool} {ops : Array Oper} {Q : Exit → Act → World → Prop} : ∀ (l : List Oper) (xs : List XO) (k : Nat) (s s' : St) (a : Act) (w : World), cOps P dr ops N l = some xs → evOps md C k xs s = some s' → Sim B w0 N I0 μ0 w1 k0 k (W8 * xs.length) s a w →
    (∀ a' w', Sim B w0 N I0 μ0 w1 k0 0 0 s' a' w' → Q .normal a' w') → wpList P ops Q l a w
  | [], xs, k, s, s', a, w, hc, hev, hs, hQ => by
    obtain rfl := Option.some.inj hc
    simp only [evOps, Option.some.injEq] at hev
    subst hev
    exact hQ a w hs.less
  | o :: l, xs, k, s, s', a, w, hc, hev, hs, hQ => by
    have w8 : W8 = 8 := rfl
    simp only [cOps, Option.bind_eq_some_iff] at hc
    obtain ⟨x, hx, q, hq, he⟩ := hc
    obtain rfl := Option.some.inj he
    simp only [cOper, Option.bind_eq_some_iff] at hx
    obtain ⟨xo, hxo, g, hg, hx⟩ := hx
    split at hx
    · rename_i hdst
      obtain rfl := Option.some.inj hx
      simp only [evOps, Option.bind_eq_some_iff] at hev
      obtain ⟨b, hb, hev⟩ := hev
      obtain ⟨⟨I, μ, h1, h2, h3, h4, h5, h6, h7, h8, h9, h10⟩, hz, hd⟩ := hs
      have hwant := wanted_ok h1 hg hb
      have hdst' : dstOk a.tmps.size o.dst = true := by rw [hz]; exact hdst
      have hlen : W8 * (q.length + 1) = W8 + W8 * q.length := by rw [Nat.mul_succ]; omega
      simp only [List.length_cons] at h8 h9 h10
      rw [hlen] at h8 h9 h10
      cases b with
      | true =>
        simp only [if_true, Option.bind_eq_some_iff] at hev
        obtain ⟨⟨d, h', n'⟩, hop, hev⟩ := hev
        unfold wpList
        rw [if_pos hwant]
        refine .inl (evOp_ok HC h2 h1.ops hxo hop (fun j hj => h8 _ (by omega) (by omega)) h4 (by omega) ?_)
        intro v w' I' μ' r1 i1 g1 nm1 nm2 nm3 nb
        refine evOps_ok HC l q (k + W8) _ s' _ w' hq hev ⟨⟨I', μ', (h1.go g1).put r1 hdst', i1, h3.trans g1, nm2, fun l hl hl0 => ?_, by simp; omega, fun b hb => ?_, fun j hj1 hj2 => ?_, by simp; omega, fun _ => by have := h10 (by omega); omega⟩, by rw [put_size]; exact hz, by rw [put_defers]; exact hd⟩ hQ
        · exact nm1 l (h5 l hl hl0) (.inl (by have := h10 (by omega); omega)) (by omega)
        · rcases nb b hb with hb | hb
          · exact h7 b hb
          · exact .inr hb
        · exact nm1 j (h8 j (by omega) (by omega)) (.inr hj1) (by omega)
      | false =>
        simp only [Bool.false_eq_true, if_false] at hev
        unfold wpList
        rw [if_neg (by rw [hwant]; simp)]
        exact evOps_ok HC l q (k + W8) _ s' _ w hq hev ⟨⟨I, μ, h1.put (.im .und) hdst', h2, h3, h4, h5, h6, h7, fun j hj1 hj2 => h8 j (by omega) (by omega), by simp; omega, fun _ => by have := h10 (by omega); omega⟩, by rw [put_size]; exact hz, by rw [put_defers]; exact hd⟩ hQ
    · cases hx

/-- Regions whose order is drawn. -/
def DrawsOk (P : Program) (md : Nat → Bool) : Prop := ∀ (C : Calls1), CallsOk P C → FrameOk C → ∀ (B : Nat) (w0 : World) (N : Nat) (I0 : Nat → Prop) (μ0 : Mu) (w1 : World) (k0 id : Nat) (ops : Array Oper) (xs : List XO) (s : St) (z : List (List Nat × List Nat) × St) (a : Act) (w : World) (Q : Exit → Act → World → Prop),
  cOps P true ops N ops.toList = some xs → statD xs = true → evOpsD md C s.k true xs ⟨s.e, s.h, s.k + W8 * xs.length⟩ = some z → prsOk z.1 (mkPrs xs) = true → Sim B w0 N I0 μ0 w1 k0 0 0 s a w → (∀ a' w', Sim B w0 N I0 μ0 w1 k0 0 0 z.2 a' w' → Q .normal a' w') → (Code.region id ops true).wp P Q a w
/-- The exit is what AE says. -/
def PostEx : Ex → Exit → Prop
  | .nrm, .normal => True
  | .exit i, .exit j => i = j
  | .ret, .ret => True
  | _, _ => False
theorem iter_ok {c : Code} {f : St → Option (Ex × St)} (hf : ∀ s r (a : Act) w, f s = some r → Sim B w0 N I0 μ0 w1 k0 0 0 s a w → c.wp P (fun ex a w => PostEx r.1 ex ∧ Sim B w0 N I0 μ0 w1 k0 0 0 r.2 a w) a w) :
    ∀ (n : Nat) (s : St) (r : Ex × St) (a : Act) (w : World), iter f n s = some r → Sim B w0 N I0 μ0 w1 k0 0 0 s a w → Code.rounds P c (fun ex a w => PostEx r.1 ex ∧ Sim B w0 N I0 μ0 w1 k0 0 0 r.2 a w) n a w
  | 0, s, r, a, w, h, _ => by cases h
  | n + 1, s, r, a, w, h, hs => by
    simp only [iter, Option.bind_eq_some_iff] at h
    obtain ⟨r1, hr1, h⟩ := h
    rw [rounds_succ]
    refine wp_mono (hf s r1 a w hr1 hs) ?_
    rintro ex a' w' ⟨hex, hs'⟩
    obtain ⟨x, s1⟩ := r1
    cases x with
    | nrm =>
      cases ex <;> simp only [PostEx] at hex
      exact iter_ok hf n s1 r a' w' h hs'
    | exit i =>
      simp only [Option.some.injEq] at h
      subst h
      cases ex <;> simp only [PostEx] at hex
      exact ⟨hex, hs'⟩
    | ret =>
      simp only [Option.some.injEq] at h
      subst h
      cases ex <;> simp only [PostEx] at hex
      exact ⟨trivial, hs'⟩
theorem evC_ok (HD : DrawsOk P md) (HC : CallsOk P C) (HFr : FrameOk C) (n : Nat) : ∀ (c : Code) (x : XC), cCode P N c = some x → ∀ (s : St) (r : Ex × St) (a : Act) (w : World), evC md C n x s = some r → Sim B w0 N I0 μ0 w1 k0 0 0 s a w →
    c.wp P (fun ex a w => PostEx r.1 ex ∧ Sim B w0 N I0 μ0 w1 k0 0 0 r.2 a w) a w
  | .skip, x, hc, s, r, a, w, hev, hs => by
    obtain rfl := Option.some.inj hc
    simp only [evC, Option.some.injEq] at hev
    subst hev
    exact wp_skip ⟨trivial, hs⟩
  | .exit id, x, hc, s, r, a, w, hev, hs => by
    obtain rfl := Option.some.inj hc
    simp only [evC, Option.some.injEq] at hev
    subst hev
    exact wp_exit ⟨rfl, hs⟩
  | .ret, x, hc, s, r, a, w, hev, hs => by
    obtain rfl := Option.some.inj hc
    simp only [evC, Option.some.injEq] at hev
    subst hev
    exact wp_ret ⟨trivial, hs⟩
  | .region id ops draw, x, hc, s, r, a, w, hev, hs => by
    simp only [cCode, Option.bind_eq_some_iff] at hc
    obtain ⟨xs, hxs, hc⟩ := hc
    cases draw with
    | true =>
      simp only [if_true] at hc
      split at hc
      · rename_i hst
        obtain rfl := Option.some.inj hc
        simp only [evC, if_true, Option.bind_eq_some_iff] at hev
        obtain ⟨z, hz, hev⟩ := hev
        split at hev
        · rename_i hp
          simp only [Option.some.injEq] at hev
          subst hev
          exact HD C HC HFr B w0 N I0 μ0 w1 k0 id ops xs s z a w _ hxs hst hz hp hs (fun a' w' h => ⟨trivial, h⟩)
        · cases hev
      · cases hc
    | false =>
      simp only [Bool.false_eq_true, if_false, Option.some.injEq] at hc
      subst hc
      simp only [evC, Bool.false_eq_true, if_false, Option.bind_eq_some_iff, Option.some.injEq] at hev
      obtain ⟨s', hs', rfl⟩ := hev
      exact wp_region_list (evOps_ok HC ops.toList xs s.k _ s' a w hxs hs' (hs.reg (W8 * xs.length)) (fun a' w' h => ⟨trivial, h⟩))
  | .seq c1 c2, x, hc, s, r, a, w, hev, hs => by
    simp only [cCode, Option.bind_eq_some_iff, Option.some.injEq] at hc
    obtain ⟨x1, hx1, x2, hx2, rfl⟩ := hc
    simp only [evC, Option.bind_eq_some_iff] at hev
    obtain ⟨⟨ex1, s1⟩, hr1, hev⟩ := hev
    refine wp_seq (wp_mono (evC_ok HD HC HFr n c1 x1 hx1 s _ a w hr1 hs) ?_)
    rintro ex a' w' ⟨hex, hs'⟩
    cases ex1 with
    | nrm =>
      cases ex <;> simp only [PostEx] at hex
      exact evC_ok HD HC HFr n c2 x2 hx2 s1 r a' w' hev hs'
    | exit i =>
      simp only [Option.some.injEq] at hev
      subst hev
      cases ex <;> simp only [PostEx] at hex
      exact ⟨hex, hs'⟩
    | ret =>
      simp only [Option.some.injEq] at hev
      subst hev
      cases ex <;> simp only [PostEx] at hex
      exact ⟨trivial, hs'⟩
  | .cond co c1 c2, x, hc, s, r, a, w, hev, hs => by
    simp only [cCode, Option.bind_eq_some_iff, Option.some.injEq] at hc
    obtain ⟨y, hy, x1, hx1, x2, hx2, rfl⟩ := hc
    simp only [evC, Option.bind_eq_some_iff] at hev
    obtain ⟨t, ht, hev⟩ := hev
    obtain ⟨I, μ, h1, _⟩ := hs.ex
    have hco := ((h1.ops co y hy).asB ht).1
    cases t with
    | true =>
      simp only [if_true] at hev
      exact wp_cond hco (evC_ok HD HC HFr n c1 x1 hx1 s r a w hev hs)
    | false =>
      simp only [Bool.false_eq_true, if_false] at hev
      exact wp_cond hco (evC_ok HD HC HFr n c2 x2 hx2 s r a w hev hs)
  | .block id c, x, hc, s, r, a, w, hev, hs => by
    simp only [cCode, Option.bind_eq_some_iff, Option.some.injEq] at hc
    obtain ⟨x1, hx1, rfl⟩ := hc
    simp only [evC, Option.bind_eq_some_iff] at hev
    obtain ⟨⟨ex1, s1⟩, hr1, hev⟩ := hev
    refine wp_block (wp_mono (evC_ok HD HC HFr n c x1 hx1 s _ a w hr1 hs) ?_)
    rintro ex a' w' ⟨hex, hs'⟩
    cases ex1 with
    | nrm =>
      simp only [Option.some.injEq] at hev
      subst hev
      cases ex <;> simp only [PostEx] at hex
      exact ⟨trivial, hs'⟩
    | exit i =>
      cases ex <;> simp only [PostEx] at hex
      subst hex
      simp only at hev
      simp only [Exit.inBlock]
      split at hev
      · rename_i hid
        simp only [Option.some.injEq] at hev
        subst hev
        rw [if_pos hid]
        exact ⟨trivial, hs'⟩
      · rename_i hid
        simp only [Option.some.injEq] at hev
        subst hev
        rw [if_neg hid]
        exact ⟨rfl, hs'⟩
    | ret =>
      simp only [Option.some.injEq] at hev
      subst hev
      cases ex <;> simp only [PostEx] at hex
      exact ⟨trivial, hs'⟩
  | .loop c, x, hc, s, r, a, w, hev, hs => by
    simp only [cCode, Option.bind_eq_some_iff, Option.some.injEq] at hc
    obtain ⟨x1, hx1, rfl⟩ := hc
    simp only [evC] at hev
    exact wp_loop_rounds n (iter_ok (fun s r a w h1 h2 => evC_ok HD HC HFr n c x1 hx1 s r a w h1 h2) n s r a w hev hs)
  | .rangeFunc .., x, hc, _, _, _, _, _, _ => by cases hc
  | .scope _, x, hc, _, _, _, _, _, _ => by cases hc
  | .label _, x, hc, _, _, _, _, _, _ => by cases hc
  | .goto _, x, hc, _, _, _, _, _, _ => by cases hc
  | .refuse _, x, hc, _, _, _, _, _, _ => by cases hc

/-! ### functions -/
def resM (ts : Array Value) (r : ResultVar) : Sem Value := match r with
  | .tmp t => pure (ts.getD t undef)
  | .cell x t => do loadVar t (← asAddr (ts.getD x undef))
theorem results_ok (hi : Inv B w0 I μ h w) (he : EnvOk w I μ e a.tmps) {kk : Nat} : ∀ (rv : List ResultVar) (rs : List (Nat × Option (Nat × Bool))) (ds : List D), cRes P rv = some rs → resOf ⟨e, h, kk⟩ rs = some ds →
    ∃ vs : List Value, RpL w I μ ds vs ∧ (rv.mapM (resM a.tmps)).run P w = .ok vs w
  | [], rs, ds, hc, hr => by
    obtain rfl := Option.some.inj hc
    simp only [resOf, Option.some.injEq] at hr
    subst hr
    exact ⟨[], .nil, by simp⟩
  | .tmp t :: r, rs, ds, hc, hr => by
    simp only [cRes, Option.bind_eq_some_iff, Option.some.injEq] at hc
    obtain ⟨q, hq, rfl⟩ := hc
    simp only [resOf, Option.bind_eq_some_iff, Option.some.injEq] at hr
    obtain ⟨dq, hdq, rfl⟩ := hr
    obtain ⟨vs, h1, h2⟩ := results_ok hi he r q dq hq hdq
    refine ⟨_, .cons (he t) h1, ?_⟩
    rw [List.mapM_cons]
    have h4 : (resM a.tmps (.tmp t)).run P w = .ok (a.tmps.getD t undef) w := rfl
    simp only [Sem.run_bind, h4, Result.andThen_ok, h2, Sem.run_pure]
  | .cell x t :: r, rs, ds, hc, hr => by
    simp only [cRes, Option.bind_eq_some_iff, Option.some.injEq] at hc
    obtain ⟨n, hn, ag, hag, q, hq, rfl⟩ := hc
    simp only [resOf, Option.bind_eq_some_iff, Option.some.injEq] at hr
    obtain ⟨cs, hcs, d, hd, dq, hdq, rfl⟩ := hr
    obtain ⟨vs, h1, h2⟩ := results_ok hi he r q dq hq hdq
    obtain ⟨ad, us, hv, hl, hu, _, hcell⟩ := cellsAt_ok hi (he x) hcs
    obtain ⟨r1, r2⟩ := run_loadVar_at (P := P) hn hag hl hcell
    rcases mkD_rp hd hu with ⟨ha, _, hr⟩ | ⟨ha, _, u, rfl, hr⟩
    · refine ⟨_, .cons hr h1, ?_⟩
      rw [List.mapM_cons]
      have h4 : (resM a.tmps (.cell x t)).run P w = .ok (.agg us.toArray) w := by
        simp only [resM, Sem.run_bind, hv, asAddr, Sem.run_pure, Result.andThen_ok, r1 ha]
      simp only [Sem.run_bind, h4, Result.andThen_ok, h2, Sem.run_pure]
    · refine ⟨_, .cons hr h1, ?_⟩
      rw [List.mapM_cons]
      have h4 : (resM a.tmps (.cell x t)).run P w = .ok u w := by
        simp only [resM, Sem.run_bind, hv, asAddr, Sem.run_pure, Result.andThen_ok, r2 ha u rfl]
      simp only [Sem.run_bind, h4, Result.andThen_ok, h2, Sem.run_pure]
theorem envOf_get : ∀ (ds : List D) (j : Nat), envOf ds j = ds.getD j .und
  | [], j => by simp [envOf]
  | d :: r, 0 => rfl
  | d :: r, j + 1 => by simp [envOf, envOf_get r j]
theorem run_results {fn : Func} {ts : Array Value} {vs : List Value} (h : (fn.results.toList.mapM (resM ts)).run P w = .ok vs w) : (results fn ts).run P w = .ok (oneV vs) w := by
  have he : results fn ts = (do let vs ← fn.results.mapM (resM ts); pure (if h : vs.size = 1 then vs[0] else .tuple vs)) := by
    unfold results
    congr 1
  rw [he, Array.mapM_eq_mapM_toList]
  simp only [Sem.run_bind, Sem.run_map, h, Result.andThen_ok, Sem.run_pure]
  congr 1
  match vs with
  | [] => rfl
  | [v] => rfl
  | v :: u :: r => simp [oneV]
/-- The functions of the program, as AE's. -/
def FnsOk (P : Program) (xp : Nat → Option XF) : Prop := ∀ f F, xp f = some F → ∃ fn, P.funcs[f]? = some fn ∧ cFn P fn = some F
theorem runF_ok {xp : Nat → Option XF} (HF : FnsOk P xp) (HD : DrawsOk P md) : ∀ n, CallsOk P (runF xp md n)
  | 0 => fun f args h k ds h' k' hr => by cases hr
  | n + 1 => by
    intro f args h k ds h' k' hr
    simp only [runF, Option.bind_eq_some_iff] at hr
    obtain ⟨F, hF, hr⟩ := hr
    split at hr
    · cases hr
    · rename_i hlen
      simp only [Option.bind_eq_some_iff] at hr
      obtain ⟨⟨ex, s⟩, hev, hr⟩ := hr
      obtain ⟨fn, hfn, hcf⟩ := HF f F hF
      unfold cFn at hcf
      simp only [Option.bind_eq_some_iff] at hcf
      obtain ⟨c, hbody, hcf⟩ := hcf
      split at hcf
      · cases hcf
      · rename_i hname
        simp only [Option.bind_eq_some_iff, Option.some.injEq] at hcf
        obtain ⟨b, hb, rr, hrr, rfl⟩ := hcf
        have hr' : ∃ ds', resOf s rr = some ds' ∧ (ds, h', k') = (ds', s.h, s.k) ∧ (ex = .nrm ∨ ex = .ret) := by
          cases ex with
          | exit i => cases hr
          | nrm => simp only [Option.bind_eq_some_iff, Option.some.injEq] at hr; obtain ⟨d1, hd1, hr⟩ := hr; exact ⟨d1, hd1, hr.symm, .inl rfl⟩
          | ret => simp only [Option.bind_eq_some_iff, Option.some.injEq] at hr; obtain ⟨d1, hd1, hr⟩ := hr; exact ⟨d1, hd1, hr.symm, .inr rfl⟩
        obtain ⟨ds', hds, heq, hex⟩ := hr'
        obtain ⟨rfl, rfl, rfl⟩ : ds = ds' ∧ h' = s.h ∧ k' = s.k := by simpa using heq
        refine ⟨⟨fn, hfn, by rw [hbody]; rfl, by simpa using hname⟩, ?_⟩
        intro B w0 I μ w vs hi hnm hv
        have hvl : vs.length ≤ fn.ntmps := by have := hv.1; simp at hlen; omega
        refine calls_of_wp hfn hbody ?_
        have hs : Sim B w0 fn.ntmps I μ w k 0 0 ⟨envOf args, h, k⟩ { tmps := vs.toArray ++ Array.replicate (fn.ntmps - vs.toArray.size) undef, defers := [] } w := by
          refine ⟨⟨I, μ, fun j => ?_, hi, .refl _ _ _, hnm, fun _ _ h => h, Nat.le_refl _, fun b hb => .inl hb, fun j _ hj => by omega, by omega, fun hm => by omega⟩, by simp; omega, rfl⟩
          show Rp w I μ (envOf args j) ((vs.toArray ++ Array.replicate (fn.ntmps - vs.toArray.size) undef).getD j undef)
          rw [envOf_get]
          rcases Nat.lt_or_ge j vs.length with hj | hj
          · have hja : j < args.length := by rw [hv.1]; exact hj
            have hd : args[j]? = some args[j] := List.getElem?_eq_getElem hja
            have hvj : vs[j]? = some vs[j] := List.getElem?_eq_getElem hj
            have := hv.2 j _ _ hd hvj
            rw [List.getD_eq_getElem?_getD, hd, Array.getD_eq_getD_getElem?, Array.getElem?_append_left (by simpa using hj)]
            simpa [hvj] using this
          · rw [List.getD_eq_getElem?_getD, List.getElem?_eq_none (by rw [hv.1]; exact hj), Array.getD_eq_getD_getElem?, Array.getElem?_append_right (by simpa using hj)]
            simp only [Option.getD_none, Array.getElem?_replicate]
            split <;> exact .im .und
        refine wp_mono (evC_ok HD (runF_ok HF HD n) (runF_frame xp md n) n c b hb _ _ _ w hev hs) ?_
        rintro en a' w' ⟨hpe, hs'⟩
        obtain ⟨⟨I', μ', h1, h2, h3, h4, h5, h6, h7, _⟩, hz, hd⟩ := hs'
        have fin : a'.defers = [] ∧ ∃ v, (results fn a'.tmps).run P w' = .ok v w' ∧ ∃ rs I' μ', Ending.returned v = .returned (oneV rs) ∧ RpL w' I' μ' ds rs ∧ Inv B w0 I' μ' s.h w' ∧ Go1 I I' μ μ' w w' ∧ (∀ l, s.k ≤ l → μ' l = none) ∧ (∀ l, l < k → μ l = none → μ' l = none) ∧ k ≤ s.k ∧ (∀ b, I' b → I b ∨ B ≤ b) := by
          obtain ⟨vs', r1, r2⟩ := results_ok (P := P) (kk := s.k) h2 h1 fn.results.toList rr ds hrr hds
          exact ⟨hd, oneV vs', run_results r2, vs', I', μ', rfl, r1, h2, h3, h4, h5, h6, h7⟩
        rcases hex with rfl | rfl
        · cases en <;> simp only [PostEx] at hpe
          exact fin
        · cases en <;> simp only [PostEx] at hpe
          exact fin
end
end Go.Proofs.Ytbpccdengeakgaa.AE
