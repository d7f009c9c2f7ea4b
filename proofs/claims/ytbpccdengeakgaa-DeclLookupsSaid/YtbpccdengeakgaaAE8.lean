/-
  AE, part 8: operations that leave memory alone.
-/
import Derived.Test.YtbpccdengeakgaaAE7
import Derived.Laws.StructEq
set_option linter.unusedVariables false
set_option linter.unusedSimpArgs false
namespace Go.Proofs.Ytbpccdengeakgaa.AE
open Go Go.RowKit
section
variable {P : Program} {B : Nat} {w0 w w' : World} {I I' : Nat → Prop} {μ μ' : Mu} {h h' : Hp} {e : Env} {ρ : Operand → Value} {d d' : D} {v : Value} {k : Nat}
theorem Rp.bool_inv {b : Bool} (hv : Rp w I μ (.bool b) v) : v = .bool b := by cases hv with | im h => cases h; rfl
theorem Rp.int_inv {kd : IntKind} {n : Int} (hv : Rp w I μ (.int kd n) v) : v = .int kd n := by cases hv with | im h => cases h; rfl
theorem Rp.str_inv {s : ByteArray} (hv : Rp w I μ (.str s) v) : v = .string s := by cases hv with | im h => cases h; rfl
theorem Rp.tup_inv {cs : List D} (hv : Rp w I μ (.tup cs) v) : ∃ vs : List Value, v = .tuple vs.toArray ∧ RpL w I μ cs vs := by
  cases hv with
  | im h => cases h with | tup vs hs h => exact ⟨vs, rfl, hs, fun j d v a b => .im (h j d v a b)⟩
  | tup vs hs h => exact ⟨vs, rfl, hs, h⟩
theorem Rp.agg_inv {cs : List D} (hv : Rp w I μ (.agg cs) v) : ∃ vs : List Value, v = .agg vs.toArray ∧ RpL w I μ cs vs := by
  cases hv with
  | im h => cases h with | agg vs hs h => exact ⟨vs, rfl, hs, fun j d v a b => .im (h j d v a b)⟩
  | agg vs hs h => exact ⟨vs, rfl, hs, h⟩
theorem Rp.fn_inv {f : Nat} {cs : List D} (hv : Rp w I μ (.fn f cs) v) : ∃ vs : List Value, v = .func (.func f) #[] vs.toArray ∧ RpL w I μ cs vs := by
  cases hv with
  | im h => cases h with | fn vs hs h => exact ⟨vs, rfl, hs, fun j d v a b => .im (h j d v a b)⟩
  | fn vs hs h => exact ⟨vs, rfl, hs, h⟩
theorem Rp.ptr_inv {l i o : Nat} (hv : Rp w I μ (.ptr l i o) v) : ∃ p b, μ l = some p ∧ p.b = some b ∧ v = .pointer (some ⟨b, i * p.sz + o, none⟩) := by
  cases hv with
  | im hm => cases hm
  | ptr h1 h2 => exact ⟨_, _, h1, h2, rfl⟩
theorem Rp.bool (b : Bool) : Rp w I μ (.bool b) (.bool b) := .im (.bool b)
theorem Rp.int (kd : IntKind) (n : Int) : Rp w I μ (.int kd n) (.int kd n) := .im (.int kd n)
theorem Rp.str (s : ByteArray) : Rp w I μ (.str s) (.string s) := .im (.str s)

theorem binD_ok {bt : Bool} {op : BinOp} {a b : D} {x y : Value} {t : TypeId} {X Y : Operand} (hx : Rp w I μ a x) (hy : Rp w I μ b y) (hb : binD bt op a b = some d) (ht : bt = true → P.underlying t = some .bool) :
    ∃ v, (eqGuard op t X Y x y).run P w = .ok () w ∧ (binOp op t x y).run P w = .ok v w ∧ Rp w I μ d v := by
  cases a <;> cases b <;> simp only [binD] at hb <;> try (cases hb; done)
  · rename_i k1 n1 k2 n2
    obtain rfl := hx.int_inv; obtain rfl := hy.int_inv
    split at hb
    · rename_i hk; subst hk
      cases op <;> first | (cases hb; done) | (obtain rfl := Option.some.inj hb; refine ⟨_, by simp [eqGuard_at_int], ?_, (by first | exact .int _ _ | exact .bool _)⟩; simp [binOp, Op.intArith, Op.intCmp])
    · cases hb
  · rename_i b1 b2
    obtain rfl := hx.bool_inv; obtain rfl := hy.bool_inv
    split at hb
    · rename_i hbt
      have hu := ht hbt
      cases op <;> first | (cases hb; done) | (obtain rfl := Option.some.inj hb; refine ⟨_, by simp [eqGuard_at_bool], ?_, .bool _⟩; simp [binOp, Op.equal, Op.maxDepth, run_equalIn_bool' w _ _ _ _ hu])
    · cases hb
  · rename_i s1 s2
    obtain rfl := hx.str_inv; obtain rfl := hy.str_inv
    cases op <;> first | (cases hb; done) | skip
    · have hb : (if s1.size + s2.size ≤ 9223372036854775807 then some (D.str (s1 ++ s2)) else none) = some d := hb
      split at hb
      · rename_i hle
        obtain rfl := Option.some.inj hb
        refine ⟨_, by simp [eqGuard_at_string], ?_, .str _⟩
        have hle' : ¬ ((s1.size + s2.size : Nat) : Int) > IntKind.i64.max := by rw [IntKind.max_i64]; omega
        show (Op.stringOp .add s1 s2).run P w = _
        simp only [Op.stringOp]
        rw [if_neg hle']
        rfl
      · cases hb
    all_goals (obtain rfl := Option.some.inj hb; exact ⟨_, by simp [eqGuard_at_string], rfl, .bool _⟩)
theorem bin_ok (hi : Inv B w0 I μ h w) (ho : OpsOk w I μ e ρ) {o : Oper} {op : BinOp} {t t2 : TypeId} {x x2 : Operand} (hop : o.op = .binOp op t x x2 t2) {y y2 : X} (hx : cX x = some y) (hx2 : cX x2 = some y2) {bt : Bool} (ht : bt = true → P.underlying t = some .bool)
    (hb : binD bt op (y.ev e) (y2.ev e) = some d) : Res P B w0 I μ w k (execOp ρ o) d h := by
  obtain ⟨v, h1, h2, h3⟩ := binD_ok (P := P) (X := x) (Y := x2) (ho x y hx) (ho x2 y2 hx2) hb ht
  refine .pure hi ?_ h3
  simp [execOp, hop, h1, h2]
theorem eqL_ok {dd : Nat} : ∀ (fs : List Field) (o : Nat) (ks : List Nat), eqKs P o fs = some ks → ∀ (cs ds : List D) (xs ys : Array Value), RpL w I μ cs (xs.toList.drop o) → RpL w I μ ds (ys.toList.drop o) → ∀ t, eqL ks cs ds = some t → (Op.eqFields (dd + 1) xs ys fs).run P w = .ok t w
  | [], o, ks, hk, cs, ds, xs, ys, hx, hy, t, he => by
    obtain rfl := Option.some.inj hk
    cases cs <;> cases ds <;> simp [eqL] at he
    subst he
    simp [Op.eqFields]
  | f :: r, o, ks, hk, cs, ds, xs, ys, hx, hy, t, he => by
    simp only [eqKs] at hk
    split at hk
    · rename_i hf
      obtain ⟨hf1, hf2, hf3⟩ := hf
      simp only [Option.bind_eq_some_iff] at hk
      obtain ⟨k, hk1, q, hq, hk2⟩ := hk
      obtain rfl := Option.some.inj hk2
      cases cs with
      | nil => simp [eqL] at he
      | cons a cr =>
        cases ds with
        | nil => simp [eqL] at he
        | cons b dr =>
          simp only [eqL, Option.bind_eq_some_iff] at he
          obtain ⟨t1, ht1, t2, ht2, he⟩ := he
          obtain rfl := Option.some.inj he
          obtain ⟨va, vr, hva, ha1, ha2⟩ := hx.inv
          obtain ⟨vb, vr2, hvb, hb1, hb2⟩ := hy.inv
          have ga : xs[o]? = some va := by
            have : (xs.toList.drop o)[0]? = some va := by rw [hva]; rfl
            rw [List.getElem?_drop] at this
            simpa using this
          have gb : ys[o]? = some vb := by
            have : (ys.toList.drop o)[0]? = some vb := by rw [hvb]; rfl
            rw [List.getElem?_drop] at this
            simpa using this
          have da : xs.toList.drop (o + 1) = vr := by rw [← List.drop_drop, hva]; rfl
          have db : ys.toList.drop (o + 1) = vr2 := by rw [← List.drop_drop, hvb]; rfl
          have ih := eqL_ok (dd := dd) r (o + 1) q hq cr dr xs ys (by rw [da]; exact ha2) (by rw [db]; exact hb2) t2 ht2
          have hag : ∀ v, (f.offset = o) → xs[o]? = some v → P.underlying f.type ≠ none → (∀ fs, P.underlying f.type ≠ some (.struct fs)) → (∀ n e, P.underlying f.type ≠ some (.array n e)) → (part f.type xs f.offset).run P w = .ok v w := by
            intro v h1 h2 h3 h4 h5
            obtain ⟨dsc, hd⟩ := Option.ne_none_iff_exists'.1 h3
            have : (isAgg f.type).run P w = .ok false w := by
              unfold isAgg
              rw [Sem.run_bind, run_underlying hd w]
              cases dsc <;> first | (simp; done) | (exact absurd hd (h4 _)) | (exact absurd hd (h5 _ _))
            simp [part, Sem.run_bind, this, h1, h2]
          have hbg : ∀ v, (f.offset = o) → ys[o]? = some v → P.underlying f.type ≠ none → (∀ fs, P.underlying f.type ≠ some (.struct fs)) → (∀ n e, P.underlying f.type ≠ some (.array n e)) → (part f.type ys f.offset).run P w = .ok v w := by
            intro v h1 h2 h3 h4 h5
            obtain ⟨dsc, hd⟩ := Option.ne_none_iff_exists'.1 h3
            have : (isAgg f.type).run P w = .ok false w := by
              unfold isAgg
              rw [Sem.run_bind, run_underlying hd w]
              cases dsc <;> first | (simp; done) | (exact absurd hd (h4 _)) | (exact absurd hd (h5 _ _))
            simp [part, Sem.run_bind, this, h1, h2]
          have fin : ∀ (r1 : Bool), (part f.type xs f.offset).run P w = .ok va w → (part f.type ys f.offset).run P w = .ok vb w → (Op.equalIn (dd + 1) f.type va vb).run P w = .ok r1 w → (Op.eqFields (dd + 1) xs ys (f :: r)).run P w = .ok (r1 && t2) w := by
            intro r1 p1 p2 p3
            rw [Op.eqFields]
            simp only [if_pos hf2, Sem.run_bind, p1, p2, p3, Result.andThen_ok]
            cases r1
            · simp
            · simpa using ih
          cases a <;> cases b <;> simp only [eqC] at ht1 <;> try (cases ht1; done)
          · obtain rfl := ha1.int_inv; obtain rfl := hb1.int_inv
            split at ht1
            · rename_i hc
              obtain ⟨rfl, rfl⟩ := hc
              obtain rfl := Option.some.inj ht1
              cases hu : P.underlying f.type with
              | none => rw [hu] at hk1; cases hk1
              | some dsc =>
                cases dsc <;> rw [hu] at hk1 <;> first | (cases hk1; done) | (simp at hk1; done) | skip
                exact fin _ (hag _ hf1 ga (by simp [hu]) (by simp [hu]) (by simp [hu])) (hbg _ hf1 gb (by simp [hu]) (by simp [hu]) (by simp [hu])) (run_equalIn_int w _ _ _ _ _ _ hu)
            · cases ht1
          · obtain rfl := ha1.bool_inv; obtain rfl := hb1.bool_inv
            split at ht1
            · rename_i hc
              subst hc
              obtain rfl := Option.some.inj ht1
              cases hu : P.underlying f.type with
              | none => rw [hu] at hk1; cases hk1
              | some dsc =>
                cases dsc <;> rw [hu] at hk1 <;> first | (cases hk1; done) | (simp at hk1; done) | skip
                exact fin _ (hag _ hf1 ga (by simp [hu]) (by simp [hu]) (by simp [hu])) (hbg _ hf1 gb (by simp [hu]) (by simp [hu]) (by simp [hu])) (run_equalIn_bool' w _ _ _ _ hu)
            · cases ht1
          · obtain rfl := ha1.str_inv; obtain rfl := hb1.str_inv
            split at ht1
            · rename_i hc
              subst hc
              obtain rfl := Option.some.inj ht1
              cases hu : P.underlying f.type with
              | none => rw [hu] at hk1; cases hk1
              | some dsc =>
                cases dsc <;> rw [hu] at hk1 <;> first | (cases hk1; done) | (simp at hk1; done) | skip
                exact fin _ (hag _ hf1 ga (by simp [hu]) (by simp [hu]) (by simp [hu])) (hbg _ hf1 gb (by simp [hu]) (by simp [hu]) (by simp [hu])) (run_equalIn_string w _ _ _ _ hu)
            · cases ht1
    · cases hk
theorem eqs_ok (hi : Inv B w0 I μ h w) (ho : OpsOk w I μ e ρ) {o : Oper} {op : BinOp} {t t2 : TypeId} {x x2 : Operand} (hop : o.op = .binOp op t x x2 t2) {y y2 : X} (hx : cX x = some y) (hx2 : cX x2 = some y2) {neg : Bool} (hn : (op = .eql ∧ neg = false) ∨ (op = .neq ∧ neg = true))
    {fs : Array Field} (hu : P.underlying t = some (.struct fs)) {ks : List Nat} (hks : eqKs P 0 fs.toList = some ks) (hs : P.stoodInHeld t = false) (hg : P.eqGuardType P.depth t = false) {cs ds : List D} (h1 : y.ev e = .agg cs) (h2 : y2.ev e = .agg ds) {tt : Bool} (he : eqL ks cs ds = some tt) :
    Res P B w0 I μ w k (execOp ρ o) (.bool (if neg then !tt else tt)) h := by
  have r1 := ho x y hx
  have r2 := ho x2 y2 hx2
  rw [h1] at r1
  rw [h2] at r2
  obtain ⟨xs, hxs, hx3⟩ := r1.agg_inv
  obtain ⟨ys, hys, hy3⟩ := r2.agg_inv
  have hf : P.fieldsOf t = fs := by simp [Program.fieldsOf, hu]
  have hrun := eqL_ok (P := P) (dd := 9998) fs.toList 0 ks hks cs ds xs.toArray ys.toArray (by simpa using hx3) (by simpa using hy3) tt he
  have heq : (Op.equalIn 10000 t (.agg xs.toArray) (.agg ys.toArray)).run P w = .ok tt w := by
    rw [run_equalIn_struct w 9999 t _ _ (by rw [hf]; exact hu) hs, hf]
    exact hrun
  have hgd := run_eqGuard_agg w op t x x2 xs.toArray ys.toArray hg
  refine .pure hi (v := .bool (if neg then !tt else tt)) ?_ (.bool _)
  rcases hn with ⟨rfl, rfl⟩ | ⟨rfl, rfl⟩
  · simp [execOp, hop, hxs, hys, hgd, run_eql_struct, heq]
  · simp [execOp, hop, hxs, hys, hgd, run_neq_struct, heq]
theorem un_ok (hi : Inv B w0 I μ h w) (ho : OpsOk w I μ e ρ) {o : Oper} {op : UnOp} {t : TypeId} {x : Operand} (hop : o.op = .unOp op t x) {y : X} (hx : cX x = some y) (hb : unD op (y.ev e) = some d) : Res P B w0 I μ w k (execOp ρ o) d h := by
  have r1 := ho x y hx
  generalize y.ev e = a at *
  cases a <;> simp only [unD] at hb <;> try (cases hb; done)
  · obtain hv := r1.int_inv
    cases op <;> first | (cases hb; done) | (obtain rfl := Option.some.inj hb; refine .pure hi ?_ (.int _ _); simp [execOp, hop, hv, Op.unary, Op.intArith])
  · obtain hv := r1.bool_inv
    cases op <;> first | (cases hb; done) | (obtain rfl := Option.some.inj hb; refine .pure hi ?_ (.bool _); simp [execOp, hop, hv, Op.unary])
end
end Go.Proofs.Ytbpccdengeakgaa.AE
