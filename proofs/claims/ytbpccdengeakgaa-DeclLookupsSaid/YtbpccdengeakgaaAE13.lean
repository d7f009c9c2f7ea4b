/-
  AE, part 13: calls.
-/
import Derived.Test.YtbpccdengeakgaaAE12
set_option linter.unusedVariables false
set_option linter.unusedSimpArgs false
namespace Go.Proofs.Ytbpccdengeakgaa.AE
open Go Go.RowKit
section
variable {P : Program} {B : Nat} {w0 w w' : World} {I I' : Nat → Prop} {μ μ' : Mu} {h h' : Hp} {e : Env} {ρ : Operand → Value} {d d' : D} {v : Value} {k : Nat}
/-- A name is given up. -/
theorem Inv.drop (hi : Inv B w0 I μ h w) (l : Nat) : Inv B w0 I μ (hput h l .no) w := by
  refine hi.put (.refl _ _ _) (Below.refl _ _) hi.lt (l := l) (o := .no) _ (fun j hj => .inl (hput_ne h _ hj)) (hput_same h l _) trivial ?_
  intro j q c hj _ hoj hq hqc
  obtain ⟨o1, o2, o3⟩ := (hi.ob j).lt hq hqc hoj
  exact ⟨rfl, o2, fun hf => by cases hf⟩
/-- A row that is handed back. -/
def RowOk (w : World) (I : Nat → Prop) (Bc ety sz : Nat) (xs : List (List D)) (v : Value) : Prop :=
  ∃ cells, 0 < sz ∧ w.ownsRow Bc ety sz v xs.length cells ∧ (∀ x ∈ xs, x.length = sz) ∧ (∀ x ∈ xs, ∀ d ∈ x, D.leaf d = true) ∧ ImL w I xs.flatten cells ∧ (∀ b, v.ownBlock = some b → ¬ I b)
/-- What is handed back: U, the blocks of the rows in it. -/
def Outs (w : World) (I : Nat → Prop) (Bc : Nat) : List D → List Value → (Nat → Prop) → Prop
  | [], vs, U => vs = [] ∧ ∀ b, ¬ U b
  | d :: r, vs, U => ∃ v q, vs = v :: q ∧ match d with
    | .own ety sz xs => RowOk w I Bc ety sz xs v ∧ ∃ U', Outs w I Bc r q U' ∧ (∀ b, v.ownBlock = some b → ¬ U' b) ∧ ∀ b, U b ↔ (U' b ∨ v.ownBlock = some b)
    | d => Im w I d v ∧ Outs w I Bc r q U
theorem outs_im {r : List D} {q : List Value} {U : Nat → Prop} {Bc : Nat} (hd : ∀ e s x, d ≠ .own e s x) (h1 : Im w I d v) (h2 : Outs w I Bc r q U) : Outs w I Bc (d :: r) (v :: q) U := by
  cases d <;> first | exact ⟨v, q, rfl, h1, h2⟩ | exact absurd rfl (hd _ _ _)
theorem im_not_own (h1 : Im w I d v) : ∀ e s x, d ≠ .own e s x := by
  intro e s x he
  subst he
  cases h1
theorem retL_ok {Bc : Nat} : ∀ (ds : List D) (h : Hp) (I : Nat → Prop) (rds : List D) (vs : List Value), Inv Bc w0 I μ h w → RpL w I μ ds vs → retL h ds = some rds →
    ∃ I' U, Go1 I I' μ μ w w ∧ (∀ b, I' b → I b ∨ OwnB h μ b) ∧ (∀ b, I' b → b < w.heap.size) ∧ Outs w I' Bc rds vs U ∧ (∀ b, U b → OwnB h μ b)
  | [], h, I, rds, vs, hi, hv, hr => by
    simp only [retL, Option.some.injEq] at hr
    subst hr
    exact ⟨I, fun _ => False, .refl _ _ _, fun b hb => .inl hb, hi.lt, ⟨hv.inv0, fun _ h => h⟩, fun b hb => hb.elim⟩
  | d :: r, h, I, rds, vs, hi, hv, hr => by
    obtain ⟨v, q, rfl, h1, h2⟩ := hv.inv
    have other : ∀ rds, ((frz 9 h d).bind fun p => (retL p.2 r).bind fun q => some (p.1 :: q)) = some rds → ∃ I' U, Go1 I I' μ μ w w ∧ (∀ b, I' b → I b ∨ OwnB h μ b) ∧ (∀ b, I' b → b < w.heap.size) ∧ Outs w I' Bc rds (v :: q) U ∧ (∀ b, U b → OwnB h μ b) := by
      intro rds hr
      simp only [Option.bind_eq_some_iff, Option.some.injEq] at hr
      obtain ⟨p, hp, rr, hrr, rfl⟩ := hr
      obtain ⟨I1, g1, i1, m1, n1, l1⟩ := frz_ok 9 I h p.2 d p.1 v hp hi h1
      obtain ⟨I2, U, g2, n2, lt2, o2, u2⟩ := retL_ok r p.2 I1 rr q i1 (h2.go g1) hrr
      refine ⟨I2, U, g1.trans g2, fun b hb => ?_, lt2, outs_im (im_not_own m1) (m1.go g2) o2, fun b hb => (u2 b hb).sub n1.2⟩
      rcases n2 b hb with hb | hb
      · exact n1.1 b hb
      · exact .inr (hb.sub n1.2)
    cases d with
    | osl l =>
      simp only [retL] at hr
      cases hl : h l with
      | row ety sz xs own =>
        rw [hl] at hr
        cases own with
        | false => exact other rds hr
        | true =>
          simp only [Option.bind_eq_some_iff, Option.some.injEq] at hr
          obtain ⟨rr, hrr, rfl⟩ := hr
          have hoo := hi.ob l
          rw [hl] at hoo
          obtain ⟨p, cells, k1, k2, k3, k4, k5, k6, k7, k8, k9, k10⟩ := hoo
          have hval : v = p.val := by
            cases h1 with
            | im hm => cases hm
            | osl h hv2 => rw [k1] at h; obtain rfl := Option.some.inj h; exact hv2.symm
          obtain ⟨I2, U, g2, n2, lt2, o2, u2⟩ := retL_ok r (hput h l .no) I rr q (hi.drop l) h2 hrr
          have far : ∀ b, OwnB (hput h l .no) μ b → p.b ≠ some b := by
            rintro b ⟨j, pj, j1, j2, j3⟩ hb
            have hjl : j ≠ l := by rintro rfl; rw [hput_same] at j1; cases j1
            rw [hput_ne _ _ hjl] at j1
            exact hi.dis j l pj p b hjl j1 (by rw [hl]; rfl) j2 k1 j3 hb
          have hsub : ∀ b, OwnB (hput h l .no) μ b → OwnB h μ b := fun b hb => hb.sub (own_sub_put rfl)
          refine ⟨I2, fun b => U b ∨ v.ownBlock = some b, g2, fun b hb => ?_, lt2, ⟨v, q, rfl, ⟨cells, k3, by rw [hval]; exact k5, k6, k7, k8.go g2, fun b hb hI => ?_⟩, U, o2, fun b hb hU => ?_, fun b => Iff.rfl⟩, fun b hb => ?_⟩
          · rcases n2 b hb with hb | hb
            · exact .inl hb
            · exact .inr (hsub b hb)
          · rw [hval, ← k4] at hb
            rcases n2 b hI with hI | hI
            · exact k9 rfl b hb hI
            · exact far b hI hb
          · rw [hval, ← k4] at hb
            exact far b (u2 b hU) hb
          · rcases hb with hb | hb
            · exact hsub b (u2 b hb)
            · rw [hval, ← k4] at hb
              exact ⟨l, p, by rw [hl]; rfl, k1, hb⟩
      | _ => rw [hl] at hr; exact other rds hr
    | _ => simp only [retL] at hr; exact other rds hr
theorem takeIn_ok {Bc : Nat} (hBB : B ≤ Bc) : ∀ (rds : List D) (vs : List Value) (U : Nat → Prop) (h : Hp) (μ : Mu) (k : Nat), Inv B w0 I μ h w → Outs w I Bc rds vs U → (∀ b, OwnB h μ b → ¬ U b) → (∀ j, j < rds.length → μ (k + j) = none) →
    ∃ μ', Inv B w0 I μ' (takeIn h k rds).2 w ∧ RpL w I μ' (takeIn h k rds).1 vs ∧ (∀ l p, μ l = some p → μ' l = some p) ∧ (∀ l, μ l = none → (l < k ∨ k + rds.length ≤ l) → μ' l = none)
  | [], vs, U, h, μ, k, hi, ho, hU, hk => by
    obtain ⟨rfl, _⟩ := ho
    exact ⟨μ, hi, .nil, fun _ _ h => h, fun _ h _ => h⟩
  | d :: r, vs, U, h, μ, k, hi, ho, hU, hk => by
    obtain ⟨v, q, rfl, ho⟩ := ho
    have other : Im w I d v → Outs w I Bc r q U → takeIn h k (d :: r) = (d :: (takeIn h (k + 1) r).1, (takeIn h (k + 1) r).2) → ∃ μ', Inv B w0 I μ' (takeIn h k (d :: r)).2 w ∧ RpL w I μ' (takeIn h k (d :: r)).1 (v :: q) ∧ (∀ l p, μ l = some p → μ' l = some p) ∧ (∀ l, μ l = none → (l < k ∨ k + (d :: r).length ≤ l) → μ' l = none) := by
      intro h1 h2 he
      obtain ⟨μ1, a1, a2, a3, a4⟩ := takeIn_ok hBB r q U h μ (k + 1) hi h2 hU (fun j hj => by have := hk (j + 1) (by simpa using hj); rwa [show k + 1 + j = k + (j + 1) by omega])
      rw [he]
      exact ⟨μ1, a1, .cons (.im h1) a2, a3, fun l hl hlk => a4 l hl (by simp at hlk; omega)⟩
    cases d with
    | own ety sz xs =>
      obtain ⟨⟨cells, r1, r2, r3, r4, r5, r6⟩, U', o1, o2, o3⟩ := ho
      have hk0 : μ k = none := by have := hk 0 (by simp); simpa using this
      have g : Go1 I I μ (mput μ k ⟨v.ownBlock, sz, v⟩) w w := ⟨fun _ h => h, fun _ _ => rfl, mput_go hk0 _⟩
      have hi1 : Inv B w0 I (mput μ k ⟨v.ownBlock, sz, v⟩) (hput h k (.row ety sz xs true)) w := by
        refine hi.put g (Below.refl _ _) hi.lt (l := k) (o := .row ety sz xs true) _ (fun j hj => .inl (hput_ne h _ hj)) (hput_same h k _) ?_ ?_
        · refine ⟨_, cells, mput_same _ _ _, rfl, r1, rfl, ⟨r2.1, ?_⟩, r3, r4, r5, fun _ b hb => r6 b hb, fun hf => by cases hf⟩
          rcases r2.2 with hn | ⟨gb, cap, cur, e1, e2, e3⟩
          · exact .inl hn
          · exact .inr ⟨gb, cap, cur, e1, Nat.le_trans hBB e2, e3⟩
        · intro j p b hj _ hoj hq hqc
          obtain ⟨q1, q2, q3⟩ := (hi.ob j).lt hq hqc hoj
          refine ⟨rfl, q2, fun _ p' hp' => ?_⟩
          rw [mput_same] at hp'
          obtain rfl := Option.some.inj hp'
          intro hb
          exact hU b ⟨j, p, hoj, hq, hqc⟩ ((o3 b).2 (.inr hb))
      obtain ⟨μ1, a1, a2, a3, a4⟩ := takeIn_ok hBB r q U' (hput h k (.row ety sz xs true)) (mput μ k ⟨v.ownBlock, sz, v⟩) (k + 1) hi1 o1 (fun b hb => by
          obtain ⟨j, p, j1, j2, j3⟩ := hb
          by_cases hj : j = k
          · subst hj
            rw [mput_same] at j2
            obtain rfl := Option.some.inj j2
            exact o2 b j3
          · rw [hput_ne _ _ hj] at j1
            rw [mput_ne _ _ hj] at j2
            intro hU'
            exact hU b ⟨j, p, j1, j2, j3⟩ ((o3 b).2 (.inl hU'))) (fun j hj => by rw [mput_ne _ _ (by omega)]; have := hk (j + 1) (by simpa using hj); rwa [show k + 1 + j = k + (j + 1) by omega])
      have hform : ∃ A n c, v = .slice A n c := by
        rcases r2.2 with ⟨rfl, _⟩ | ⟨g, cap, cur, rfl, _⟩
        · exact ⟨_, _, _, rfl⟩
        · exact ⟨_, _, _, rfl⟩
      refine ⟨μ1, a1, ?_, fun l p hl => a3 l p (g.nam l p hl), fun l hl hlk => a4 l (by rw [mput_ne _ _ (by simp at hlk; omega)]; exact hl) (by simp at hlk; omega)⟩
      obtain ⟨A, n, c, rfl⟩ := hform
      exact .cons (.osl (a3 k _ (mput_same _ _ _)) rfl) a2
    | _ => exact other ho.1 ho.2 rfl

/-! ### calls -/
def oneV (rs : List Value) : Value := match rs with
  | [v] => v
  | rs => .tuple rs.toArray
theorem one_rp {ds : List D} {rs : List Value} (hr : RpL w I μ ds rs) : Rp w I μ (one ds) (oneV rs) := by
  match ds, rs, hr with
  | [], rs, hr => obtain rfl := hr.inv0; exact .tup [] rfl (fun j d v h => by simp at h)
  | [d], rs, hr =>
    obtain ⟨v, q, rfl, h1, h2⟩ := hr.inv
    obtain rfl := h2.inv0
    exact h1
  | d :: d2 :: r, rs, hr =>
    obtain ⟨v, q, rfl, h1, h2⟩ := hr.inv
    obtain ⟨v2, q2, rfl, h3, h4⟩ := h2.inv
    exact .tup _ hr.1 hr.2
/-- Calls with fewer rounds do what AE says. -/
def CallsOk (P : Program) (C : Calls1) : Prop := ∀ f args h k ds h' k', C f args h k = some (ds, h', k') →
  (∃ fn, P.funcs[f]? = some fn ∧ fn.body.isSome = true ∧ (fn.name == "runtime.NumGoroutine") = false) ∧
  ∀ B w0 I μ w vs, Inv B w0 I μ h w → (∀ l, k ≤ l → μ l = none) → RpL w I μ args vs →
    Calls P f vs.toArray w (fun en w' => ∃ rs I' μ', en = .returned (oneV rs) ∧ RpL w' I' μ' ds rs ∧ Inv B w0 I' μ' h' w' ∧ Go1 I I' μ μ' w w' ∧ (∀ l, k' ≤ l → μ' l = none) ∧ (∀ l, l < k → μ l = none → μ' l = none) ∧ k ≤ k' ∧ (∀ b, I' b → I b ∨ B ≤ b))
theorem run_callFunc {f : Nat} {fn : Func} (h1 : P.funcs[f]? = some fn) (h2 : fn.body.isSome = true) (h3 : (fn.name == "runtime.NumGoroutine") = false) (args : Array Value) : (callFunc f args).run P w = .ok (.enter f args) w := by
  have h4 : ¬ fn.body = none := by intro hb; rw [hb] at h2; cases h2
  have h5 : ¬ fn.name = "runtime.NumGoroutine" := by simpa using h3
  simp [callFunc, h1, h5, h4]
end
end Go.Proofs.Ytbpccdengeakgaa.AE
