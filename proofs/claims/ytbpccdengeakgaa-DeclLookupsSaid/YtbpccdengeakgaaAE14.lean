/-
  AE, part 14: any operation; the operations of a region in order.
-/
import Derived.Test.YtbpccdengeakgaaAE13
set_option linter.unusedVariables false
set_option linter.unusedSimpArgs false
namespace Go.Proofs.Ytbpccdengeakgaa.AE
open Go Go.RowKit
section
variable {P : Program} {B : Nat} {w0 w w' : World} {I I' : Nat → Prop} {μ μ' : Mu} {h h' : Hp} {e : Env} {ρ : Operand → Value} {d d' : D} {v : Value} {k n n' : Nat} {C : Calls1} {md : Nat → Bool}
theorem Inv.none (w : World) (hlt : ∀ b, I b → b < w.heap.size) : Inv w.heap.size w I (fun _ => Option.none) (fun _ => .no) w :=
  ⟨Below.refl _ _, Nat.le_refl _, hlt, fun _ => trivial, fun l l' p p' b _ ho => by cases ho⟩
theorem callP_ok (HC : CallsOk P C) {f : Nat} {args rds : List D} (hc : callP C f args = some rds) (hlt : ∀ b, I b → b < w.heap.size) {vs : List Value} (hv : ImL w I args vs) :
    (∃ fn, P.funcs[f]? = some fn ∧ fn.body.isSome = true ∧ (fn.name == "runtime.NumGoroutine") = false) ∧
    Calls P f vs.toArray w (fun en w' => ∃ rs I' U, en = .returned (oneV rs) ∧ Below w.heap.size w w' ∧ (∀ b, I b → I' b) ∧ (∀ b, I' b → I b ∨ w.heap.size ≤ b) ∧ (∀ b, I' b → b < w'.heap.size) ∧ Outs w' I' w.heap.size rds rs U ∧ (∀ b, U b → w.heap.size ≤ b)) := by
  unfold callP at hc
  simp only [Option.bind_eq_some_iff] at hc
  obtain ⟨r, hr, hret⟩ := hc
  obtain ⟨h1, h2⟩ := HC f args _ 0 r.1 r.2.1 r.2.2 hr
  refine ⟨h1, (h2 _ w I _ w vs (Inv.none w hlt) (fun _ _ => rfl) hv.rp).mono ?_⟩
  rintro en w' ⟨rs, I1, μ1, rfl, r1, i1, g1, _, _, _, n1⟩
  obtain ⟨I2, U, g2, n2, l2, o2, u2⟩ := retL_ok r.1 r.2.1 I1 rds rs i1 r1 hret
  refine ⟨rs, I2, U, rfl, i1.below, fun b hb => g2.imp b (g1.imp b hb), fun b hb => ?_, l2, o2, fun b hb => ((u2 b hb).ge i1).2.2⟩
  rcases n2 b hb with hb | hb
  · exact n1 b hb
  · exact .inr (hb.ge i1).2.2
theorem outs_scalar {Bc : Nat} : ∀ {rds : List D} {rs : List Value} {U : Nat → Prop}, Outs w I Bc rds rs U → rds.all D.scalar = true → ImL w I' rds rs
  | [], rs, U, ho, hs => by obtain ⟨rfl, _⟩ := ho; exact .nil
  | d :: r, rs, U, ho, hs => by
    obtain ⟨v, q, rfl, ho⟩ := ho
    simp only [List.all_cons, Bool.and_eq_true] at hs
    cases d <;> first | (cases hs.1; done) | skip
    · obtain ⟨hm, hr⟩ := ho; cases hm; exact .cons (.int _ _) (outs_scalar hr hs.2)
    · obtain ⟨hm, hr⟩ := ho; cases hm; exact .cons (.bool _) (outs_scalar hr hs.2)
    · obtain ⟨hm, hr⟩ := ho; cases hm; exact .cons (.str _) (outs_scalar hr hs.2)
/-- What a call operation runs into. -/
theorem call_target (hi : Inv B w0 I μ h w) (ho : OpsOk w I μ e ρ) {dr : Bool} {o : Oper} {xo : XOp} (hc : cOp P dr o.op = some xo) (hcall : isCall xo = true) {f : Nat} {args : List D} (ht : target e xo = some (f, args)) {fn : Func} (h1 : P.funcs[f]? = some fn) (h2 : fn.body.isSome = true) (h3 : (fn.name == "runtime.NumGoroutine") = false) :
    ∃ vs : List Value, RpL w I μ args vs ∧ (execOp ρ o).run P w = .ok (.enter f vs.toArray) w := by
  have core : ∀ (c : Go.Call) (x : Operand) (caps : List Value) (ys : List X), o.op = .call c → c.callee = .value x → ρ x = .func (.func f) #[] caps.toArray → cXs c.args.toList = some ys → ∀ cd : List D, RpL w I μ cd caps → args = ys.map (X.ev e) ++ cd →
      ∃ vs : List Value, RpL w I μ args vs ∧ (execOp ρ o).run P w = .ok (.enter f vs.toArray) w := by
    intro c x caps ys hop hcal hx hys cd hcd ha
    refine ⟨c.args.toList.map ρ ++ caps, by rw [ha]; exact (ho.list hys).app hcd, ?_⟩
    have hm : (c.args.toList.map ρ ++ caps).toArray = c.args.map ρ ++ caps.toArray := by
      rw [← List.append_toArray, ← Array.toList_map, Array.toArray_toList]
    rw [hm]
    simp [execOp, hop, resolve, hcal, Deferred.ofValue, hx, invoke, run_callFunc h1 h2 h3]
  obtain ⟨hc0, hcc⟩ := cOpA_some (cOp_call hc hcall)
  obtain ⟨c, x, hop, hcal⟩ := hcc hcall
  rw [hop] at hc0
  simp only [cOp0, hcal] at hc0
  cases x with
  | func g =>
    simp only at hc0
    split at hc0
    · split at hc0
      · simp only [Option.bind_eq_some_iff, Option.some.injEq] at hc0
        obtain ⟨_, _, _, _, rfl⟩ := hc0
        cases hcall
      · cases hc0
    simp only [Option.bind_eq_some_iff, Option.some.injEq] at hc0
    obtain ⟨ys, hys, rfl⟩ := hc0
    simp only [target, Option.some.injEq, Prod.mk.injEq] at ht
    obtain ⟨rfl, rfl⟩ := ht
    obtain ⟨vs, hv, hr⟩ := (ho (.func g) (.c (.fn g [])) rfl).fn_inv
    exact core c (.func g) vs ys hop hcal hv hys [] hr (by simp)
  | tmp g =>
    simp only [Option.bind_eq_some_iff, Option.some.injEq] at hc0
    obtain ⟨ys, hys, rfl⟩ := hc0
    simp only [target] at ht
    split at ht
    · rename_i f' caps hf
      simp only [Option.some.injEq, Prod.mk.injEq] at ht
      obtain ⟨rfl, rfl⟩ := ht
      have hr := ho (.tmp g) (.t g) rfl
      rw [hf] at hr
      obtain ⟨vs, hv, hr⟩ := hr.fn_inv
      exact core c (.tmp g) vs ys hop hcal hv hys caps hr rfl
    · cases ht
  | _ => cases hc0
theorem evOp_ok (HC : CallsOk P C) (hi : Inv B w0 I μ h w) {a : Act} (ho : OpsOk w I μ e a.eval) {dr : Bool} {o : Oper} {xo : XOp} (hc : cOp P dr o.op = some xo) (hev : evOp md C e h k n xo = some (d, h', n')) (hk : ∀ j, j < W8 → μ (k + j) = none) (hn : ∀ l, n ≤ l → μ l = none) (hkn : k + W8 ≤ n)
    {K : Act → World → Prop} {Q : Exit → Act → World → Prop} (hK : ∀ v w' I' μ', Rp w' I' μ' d v → Inv B w0 I' μ' h' w' → Go1 I I' μ μ' w w' → (∀ l, μ l = none → (l < k ∨ k + W8 ≤ l) → l < n → μ' l = none) → (∀ l, n' ≤ l → μ' l = none) → n ≤ n' → (∀ b, I' b → I b ∨ B ≤ b) → K (a.put o.dst v) w') : o.wp P a w K Q := by
  have w8 : W8 = 8 := rfl
  unfold evOp at hev
  split at hev
  · rename_i hcall
    simp only [Option.bind_eq_some_iff] at hev
    obtain ⟨⟨f, args⟩, ht, hev⟩ := hev
    simp only at hev
    split at hev
    · simp only [Option.bind_eq_some_iff, Option.some.injEq, Prod.mk.injEq] at hev
      obtain ⟨⟨ds, h1, n1⟩, hr, rfl, rfl, rfl⟩ := hev
      obtain ⟨⟨fn, f1, f2, f3⟩, hcalls⟩ := HC f args h n ds h1 n1 hr
      obtain ⟨vs, hvs, hrun⟩ := call_target hi ho hc hcall ht f1 f2 f3
      unfold Oper.wp
      rw [hrun]
      refine (hcalls B w0 I μ w vs hi hn hvs).mono ?_
      rintro en w' ⟨rs, I', μ', rfl, r1, i1, g1, nm1, nm2, nm3, nb⟩
      exact hK _ w' I' μ' (one_rp r1) i1 g1 (fun l hl hlk hln => nm2 l hln hl) nm1 nm3 nb
    · simp only [Option.bind_eq_some_iff] at hev
      obtain ⟨⟨args1, h1⟩, hq, r, hr, hev⟩ := hev
      simp only at hev hr
      -- the arguments are frozen
      have hfn : ∃ fn, P.funcs[f]? = some fn ∧ fn.body.isSome = true ∧ (fn.name == "runtime.NumGoroutine") = false := by
        unfold callP at hr
        simp only [Option.bind_eq_some_iff] at hr
        obtain ⟨r0, hr0, _⟩ := hr
        exact (HC f args1 _ 0 r0.1 r0.2.1 r0.2.2 hr0).1
      obtain ⟨fn, f1, f2, f3⟩ := hfn
      obtain ⟨vs, hvs, hrun⟩ := call_target hi ho hc hcall ht f1 f2 f3
      obtain ⟨I1, g1, i1, m1, ⟨nb1, os1⟩, _⟩ := frzL_ok (fun I h h' d d' v => frz_ok 9 I h h' d d' v) args I h h1 args1 vs hq hi hvs
      obtain ⟨_, hcalls⟩ := callP_ok HC hr i1.lt m1
      unfold Oper.wp
      rw [hrun]
      refine hcalls.mono ?_
      rintro en w' ⟨rs, I2, U, rfl, bel, im2, nw2, lt2, outs, u2⟩
      have bel' : Below B w w' := bel.mono hi.hB
      split at hev
      · rename_i hsc
        simp only [Option.some.injEq, Prod.mk.injEq] at hev
        obtain ⟨rfl, rfl, rfl⟩ := hev
        have g : Go1 I I μ μ w w' := ⟨fun _ h => h, fun b hb => bel.block b (hi.lt b hb), fun _ _ h => h⟩
        have hinv : Inv B w0 I μ h w' := hi.go g bel' (fun b hb => Nat.lt_of_lt_of_le (hi.lt b hb) bel.size) (fun b hb _ => hb) (fun b hb => bel.block b hb)
        exact hK _ w' I μ (one_rp (outs_scalar outs hsc).rp) hinv g (fun l hl _ _ => hl) hn (Nat.le_refl _) (fun b hb => .inl hb)
      · split at hev
        · rename_i hlen
          simp only [Option.some.injEq, Prod.mk.injEq] at hev
          obtain ⟨rfl, rfl, rfl⟩ := hev
          have g : Go1 I1 I2 μ μ w w' := ⟨im2, fun b hb => bel.block b (i1.lt b hb), fun _ _ h => h⟩
          have hinv : Inv B w0 I2 μ h1 w' := i1.go g bel' lt2 (fun b hb hlt => by
            rcases nw2 b hb with h | h
            · exact h
            · omega) (fun b hb => bel.block b hb)
          obtain ⟨μ3, a1, a2, a3, a4⟩ := takeIn_ok hi.hB r rs U h1 μ k hinv outs (fun b hb hU => by
            obtain ⟨l, p, p1, p2, p3⟩ := hb
            have := ((i1.ob l).lt p2 p3 p1).1
            have := u2 b hU
            omega) (fun j hj => hk j (by omega))
          have g3 : Go1 I2 I2 μ μ3 w' w' := ⟨fun _ h => h, fun _ _ => rfl, a3⟩
          refine hK _ w' I2 μ3 (one_rp a2) a1 (g1.trans (g.trans g3)) (fun l hl hlk hln => a4 l hl (by omega)) (fun l hl => a4 l (hn l hl) (by omega)) (Nat.le_refl _) (fun b hb => ?_)
          rcases nw2 b hb with h | h
          · rcases nb1 b h with h | h
            · exact .inl h
            · exact .inr (h.ge hi).2.2
          · exact .inr (Nat.le_trans hi.hB h)
        · cases hev
  · rename_i hcall
    simp only [Option.bind_eq_some_iff, Option.some.injEq, Prod.mk.injEq] at hev
    obtain ⟨⟨d1, h1⟩, hev, rfl, rfl, rfl⟩ := hev
    obtain ⟨nx, v, w', I', μ', hrun, hnx, r1, i1, g1, nm, nb⟩ := evP_ok2 hi ho (by have := hk 0 (by decide); simpa using this) hc hev
    have hk2 := hK v w' I' μ' r1 i1 g1 (fun l hl hlk _ => nm l hl (by omega)) (fun l hl => nm l (hn l hl) (by omega)) (Nat.le_refl _) nb
    unfold Oper.wp
    rw [hrun]
    rcases hnx with rfl | ⟨rfl, rfl⟩
    · exact hk2
    · exact hk2
end
end Go.Proofs.Ytbpccdengeakgaa.AE
