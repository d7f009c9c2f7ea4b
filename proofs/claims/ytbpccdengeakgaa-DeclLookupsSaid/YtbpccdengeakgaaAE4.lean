/-
  AE, part 4: the program's operations as AE's, and that each plain one does what AE says.
-/
import Derived.Test.YtbpccdengeakgaaAE3
set_option linter.unusedVariables false
set_option linter.unusedSimpArgs false
namespace Go.Proofs.Ytbpccdengeakgaa.AE
open Go Go.RowKit

/-! ### operations and code of the program, as AE's -/
def cLeaf : Value → Option D
  | .bool b => some (.bool b)
  | .int k n => some (.int k n)
  | .string s => some (.str s)
  | .slice none 0 0 => some .nls
  | .nilFunc => some .nlf
  | .map none => some .nlf
  | _ => none
def cCells : List Value → Option (List D)
  | [] => some []
  | v :: r => (cLeaf v).bind fun d => (cCells r).bind fun q => some (d :: q)
def cV : Value → Option D
  | .agg cs => (cCells cs.toList).bind fun l => some (.agg l)
  | v => cLeaf v
def cX : Operand → Option X
  | .tmp k => some (.t k)
  | .const v => (cV v).bind fun d => some (.c d)
  | .func f => some (.c (.fn f []))
  | _ => none
def cXs : List Operand → Option (List X)
  | [] => some []
  | x :: r => (cX x).bind fun y => (cXs r).bind fun q => some (y :: q)
def zCells (P : Program) (t : TypeId) : Option (List D) := (P.info? t).bind fun i => i.zero.bind fun z => (cCells z.cells.toList).bind fun l => if l.length = i.size then some l else none
def szT (P : Program) (t : TypeId) : Option Nat := (P.info? t).map (·.size)
def agT (P : Program) (t : TypeId) : Option Bool := (P.underlying t).map TypeDesc.isRow
def cPs (f : Nat → Option (Nat × Nat)) : List (Nat × Operand) → Option (List (Nat × Nat × X))
  | [] => some []
  | (i, x) :: r => (f i).bind fun p => (cX x).bind fun y => (cPs f r).bind fun q => some ((p.1, p.2, y) :: q)
def cQs : List (Nat × Operand) → Option (List (Nat × X))
  | [] => some []
  | (i, x) :: r => (cX x).bind fun y => (cQs r).bind fun q => some ((i, y) :: q)
def cO (x : Option Operand) : Option (Option X) := match x with
  | none => some none
  | some x => (cX x).bind fun y => some (some y)
/-- The kinds of a flat struct's fields, from offset o on. -/
def eqKs (P : Program) : Nat → List Field → Option (List Nat)
  | _, [] => some []
  | o, f :: r => if f.offset = o ∧ f.name ≠ "_" ∧ szT P f.type = some 1 then (match P.underlying f.type with
      | some (.int _) => some 0
      | some .bool => some 1
      | some .string => some 2
      | _ => none).bind fun k => (eqKs P (o + 1) r).bind fun q => some (k :: q)
    else none
/-- A function for which the model stands in: the place of a byte in a string. -/
def ibsOf (P : Program) (f : FuncId) : Bool := match P.funcs[f]? with
  | some fn => fn.body.isNone && (fn.name == "internal/bytealg.IndexByteString") && (Extern.findNext fn).isNone
  | none => false
def cOp0 (P : Program) : Go.Op → Option XOp
  | .move x | .assign x => (cX x).bind fun y => some (.mv y)
  | .pick c a b => (cX c).bind fun c => (cX a).bind fun a => (cX b).bind fun b => some (.pick c a b)
  | .alloc t => (zCells P t).bind fun z => some (.alloc z)
  | .box t x => (szT P t).bind fun n => (cX x).bind fun y => some (.box n y)
  | .load t x => (szT P t).bind fun n => (agT P t).bind fun ag => (cX x).bind fun y => some (.load n ag y)
  | .store t x y => (szT P t).bind fun n => (cX x).bind fun x => (cX y).bind fun y => some (.store n x y)
  | .binOp op t x y _ => (cX x).bind fun x => (cX y).bind fun y => match P.underlying t with
    | some .bool => some (.bin true op x y)
    | some (.struct fs) => (eqKs P 0 fs.toList).bind fun ks => if P.stoodInHeld t = false ∧ P.eqGuardType P.depth t = false then match op with
        | .eql => some (.eqs false ks x y)
        | .neq => some (.eqs true ks x y)
        | _ => none
      else none
    | some _ => some (.bin false op x y)
    | none => none
  | .unOp op _ x => (cX x).bind fun x => some (.un op x)
  | .extract x k => (cX x).bind fun x => some (.ext x k)
  | .field t x f => match P.underlying t with
    | some (.struct fs) => (fs[f]?).bind fun fd => (szT P fd.type).bind fun n => (agT P fd.type).bind fun ag => (cX x).bind fun x => some (.fld n ag fd.offset x)
    | _ => none
  | .fieldAddr t x f => match P.underlying t with
    | some (.struct fs) => (fs[f]?).bind fun fd => (szT P fd.type).bind fun n => if n = 0 then none else (cX x).bind fun x => some (.fad fd.offset x)
    | _ => none
  | .indexAddr t x i => match P.underlying t with
    | some (.array n e) => (szT P e).bind fun sz => (cX x).bind fun x => (cX i).bind fun i => some (.iaA n sz x i)
    | some (.slice e) => (szT P e).bind fun sz => (cX x).bind fun x => (cX i).bind fun i => some (.iaS sz x i)
    | _ => none
  | .index t x i => match P.underlying t with
    | some .string => (cX x).bind fun x => (cX i).bind fun i => some (.ixS x i)
    | _ => none
  | .call c => match c.callee with
    | .value (.func f) => if ibsOf P f = true then (match c.args.toList with
        | [x, y] => (cX x).bind fun x => (cX y).bind fun y => some (.ibs x y)
        | _ => none)
      else (cXs c.args.toList).bind fun xs => some (.call f xs)
    | .value (.tmp k) => (cXs c.args.toList).bind fun xs => some (.callv (.t k) xs)
    | .builtin .len => match c.args.toList, c.argTypes.toList with
      | [x], [t] => match P.underlying t with
        | some .string => (cX x).bind fun x => some (.len true x)
        | some (.slice _) => (cX x).bind fun x => some (.len false x)
        | _ => none
      | _, _ => none
    | .builtin .append => match c.args.toList, c.argTypes.toList with
      | [x, y], [t, u] => if t = u then match P.underlying t with
          | some (.slice e) => (P.info? e).bind fun i => (zCells P e).bind fun z => if i.size ≠ 0 ∧ i.bytes ≤ 2048 then (cX x).bind fun x => (cX y).bind fun y => some (.app e i.size i.bytes x y) else none
          | _ => none
        else none
      | _, _ => none
    | .builtin .max => match c.args.toList with
      | [x, y] => (cX x).bind fun x => (cX y).bind fun y => some (.mm true x y)
      | _ => none
    | .builtin .min => match c.args.toList with
      | [x, y] => (cX x).bind fun x => (cX y).bind fun y => some (.mm false x y)
      | _ => none
    | _ => none
  | .convert s t x => match P.underlying s, P.underlying t with
    | some (.int _), some (.int k) => (cX x).bind fun x => some (.cvi k x)
    | some (.slice e), some .string => match P.underlying e with
      | some (.int .u8) => (cX x).bind fun x => some (.bts x)
      | _ => none
    | _, _ => none
  | .makeFunc (.func f) first caps => if first.isEmpty then (cXs caps.toList).bind fun xs => some (.mkfn f xs) else none
  | .slice t x lo hi none => match P.underlying t with
    | some .string => (cX x).bind fun x => (cO lo).bind fun lo => (cO hi).bind fun hi => some (.slS x lo hi)
    | _ => none
  | .makeSlice t x y => match P.underlying t with
    | some (.slice e) => (P.info? e).bind fun i => (zCells P e).bind fun z => if i.size ≠ 0 ∧ i.bytes ≤ 2048 ∧ z.all D.leaf ∧ z.all D.im then (cX x).bind fun x => (cX y).bind fun y => some (.mks e i.size i.bytes z x y) else none
    | _ => none
  | .makeMap t none => some .mkmap
  | .lookup t x i false => match P.underlying t with
    | some (.map kt et) => match P.underlying kt with
      | some .string => (P.info? et).bind fun ti => ti.zero.bind fun zv => (cLeaf zv).bind fun z => (cX x).bind fun x => (cX i).bind fun i => some (.mget z x i)
      | _ => none
    | _ => none
  | .mapUpdate t x i y | .insert t x i y => match P.underlying t with
    | some (.map kt et) => match P.underlying kt with
      | some .string => (cX x).bind fun x => (cX i).bind fun i => (cX y).bind fun y => some (.mput x i y)
      | _ => none
    | _ => none
  | .nilCheck x => (cX x).bind fun x => some (.nilc x)
  | .build t ps => match P.underlying t with
    | some (.struct fs) => (zCells P t).bind fun z => (fs.toList.mapM (fun f => (P.info? f.type).map fun i => (f.offset, i.size))).bind fun pl => (cPs (fun i => pl[i]?) ps.toList).bind fun qs => some (.build z qs)
    | _ => none
  | .buildSlice t n ps => match P.underlying t with
    | some (.slice e) => (zCells P e).bind fun z => if n * z.length ≤ 16777216 ∧ z.length ≠ 0 then (cQs ps.toList).bind fun qs => some (.bsl e z.length z n qs) else none
    | _ => none
  | _ => none

def grd (x : Option XOp) : Option XOp := x.bind fun xo => if isCall xo then none else some xo
def cOpA (P : Program) (op : Go.Op) : Option XOp := match op with
  | .call c => match c.callee with
    | .value _ => cOp0 P (.call c)
    | _ => grd (cOp0 P (.call c))
  | op => grd (cOp0 P op)
theorem grd_some {x : Option XOp} {xo : XOp} (h : grd x = some xo) : x = some xo ∧ isCall xo = false := by
  unfold grd at h
  simp only [Option.bind_eq_some_iff] at h
  obtain ⟨y, hy, h⟩ := h
  split at h
  · cases h
  · rename_i hc
    obtain rfl := Option.some.inj h
    exact ⟨hy, by simpa using hc⟩
theorem cOpA_some {P : Program} {op : Go.Op} {xo : XOp} (h : cOpA P op = some xo) : cOp0 P op = some xo ∧ (isCall xo = true → ∃ c x, op = .call c ∧ c.callee = .value x) := by
  cases op with
  | call c =>
    simp only [cOpA] at h
    split at h
    · rename_i x hx
      exact ⟨h, fun _ => ⟨c, x, rfl, hx⟩⟩
    · obtain ⟨h1, h2⟩ := grd_some h
      exact ⟨h1, fun hc => by rw [h2] at hc; cases hc⟩
  | _ =>
    obtain ⟨h1, h2⟩ := grd_some h
    exact ⟨h1, fun hc => by rw [h2] at hc; cases hc⟩
/-- In a region whose order is drawn a slice literal is frozen at once; in one whose order is not, a struct literal. -/
def fzOp (dr : Bool) : XOp → XOp
  | .bsl t sz z n ps => if dr then .bsf t sz z n ps else .bsl t sz z n ps
  | .build z ps => if dr then .build z ps else .bdf z ps
  | x => x
/-- What is not known here is 'bad': it has no value. -/
def cOp (P : Program) (dr : Bool) (op : Go.Op) : Option XOp := some (match cOpA P op with
  | some x => fzOp dr x
  | none => .bad)
theorem fz_call {dr : Bool} {x : XOp} (h : isCall (fzOp dr x) = true) : fzOp dr x = x := by
  cases x <;> first | rfl | (cases dr <;> cases h)
theorem cOp_inv {P : Program} {dr : Bool} {op : Go.Op} {xo : XOp} (h : cOp P dr op = some xo) : (∃ x, cOpA P op = some x ∧ xo = fzOp dr x) ∨ xo = .bad := by
  unfold cOp at h
  cases hx : cOpA P op with
  | none => rw [hx] at h; exact .inr (Option.some.inj h).symm
  | some x => rw [hx] at h; exact .inl ⟨x, rfl, (Option.some.inj h).symm⟩
theorem cOp_call {P : Program} {dr : Bool} {op : Go.Op} {xo : XOp} (h : cOp P dr op = some xo) (hc : isCall xo = true) : cOpA P op = some xo := by
  rcases cOp_inv h with ⟨x, hx, rfl⟩ | rfl
  · rw [fz_call hc]
    exact hx
  · cases hc
section
variable {P : Program} {B : Nat} {w0 w : World} {I : Nat → Prop} {μ : Mu} {h h' : Hp} {e : Env} {ρ : Operand → Value} {d : D} {k : Nat}

theorem cLeaf_im {v : Value} (hv : cLeaf v = some d) : Im w I d v ∧ d.leaf = true ∧ d.im = true := by
  unfold cLeaf at hv
  split at hv <;> first | (cases hv; done) | (obtain rfl := Option.some.inj hv; first | exact ⟨.nlm, rfl, rfl⟩ | exact ⟨.bool _, rfl, rfl⟩ | exact ⟨.int _ _, rfl, rfl⟩ | exact ⟨.str _, rfl, rfl⟩ | exact ⟨.nls, rfl, rfl⟩ | exact ⟨.nlf, rfl, rfl⟩)
theorem cCells_im : ∀ {vs : List Value} {ds : List D}, cCells vs = some ds → ImL w I ds vs ∧ (∀ d ∈ ds, D.leaf d = true) ∧ (∀ d ∈ ds, D.im d = true)
  | [], ds, hv => by
    obtain rfl := Option.some.inj hv
    exact ⟨.nil, by simp, by simp⟩
  | v :: r, ds, hv => by
    simp only [cCells, Option.bind_eq_some_iff] at hv
    obtain ⟨d, hd, q, hq, he⟩ := hv
    obtain rfl := Option.some.inj he
    obtain ⟨h1, h2, h3⟩ := cLeaf_im (w := w) (I := I) hd
    obtain ⟨h4, h5, h6⟩ := cCells_im hq
    exact ⟨.cons h1 h4, by simpa using ⟨h2, h5⟩, by simpa using ⟨h3, h6⟩⟩
theorem cV_im {v : Value} (hv : cV v = some d) : Im w I d v := by
  unfold cV at hv
  split at hv
  · simp only [Option.bind_eq_some_iff] at hv
    obtain ⟨l, hl, he⟩ := hv
    obtain rfl := Option.some.inj he
    rename_i cs
    obtain ⟨h1, _, _⟩ := cCells_im (w := w) (I := I) hl
    have := Im.agg (w := w) (I := I) cs.toList h1.1 h1.2
    simpa using this
  · exact (cLeaf_im hv).1

/-- The temporaries are what the environment says. -/
def EnvOk (w : World) (I : Nat → Prop) (μ : Mu) (e : Env) (ts : Array Value) : Prop := ∀ k, Rp w I μ (e k) (ts.getD k undef)
/-- The operands are. -/
def OpsOk (w : World) (I : Nat → Prop) (μ : Mu) (e : Env) (ρ : Operand → Value) : Prop := ∀ x y, cX x = some y → Rp w I μ (y.ev e) (ρ x)
theorem EnvOk.ops {a : Act} (he : EnvOk w I μ e a.tmps) : OpsOk w I μ e a.eval := by
  intro x y hx
  cases x with
  | tmp t => obtain rfl := Option.some.inj hx; exact he t
  | const v =>
    simp only [cX, Option.bind_eq_some_iff] at hx
    obtain ⟨d, hd, hy⟩ := hx
    obtain rfl := Option.some.inj hy
    exact .im (cV_im hd)
  | func f =>
    obtain rfl := Option.some.inj hx
    exact .im (.fn [] rfl (fun j d v hj => by simp at hj))
  | global g => cases hx
theorem OpsOk.list (he : OpsOk w I μ e ρ) : ∀ {xs : List Operand} {ys : List X}, cXs xs = some ys → RpL w I μ (ys.map (X.ev e)) (xs.map ρ)
  | [], ys, hx => by
    obtain rfl := Option.some.inj hx
    exact .nil
  | x :: r, ys, hx => by
    simp only [cXs, Option.bind_eq_some_iff] at hx
    obtain ⟨y, hy, q, hq, he2⟩ := hx
    obtain rfl := Option.some.inj he2
    exact .cons (he x y hy) (OpsOk.list he hq)

/-- What one operation comes to. -/
def Res (P : Program) (B : Nat) (w0 : World) (I : Nat → Prop) (μ : Mu) (w : World) (k : Nat) (s : Sem Next) (d : D) (h' : Hp) : Prop :=
  ∃ nx v w' I' μ', s.run P w = .ok nx w' ∧ (nx = .value v ∨ (nx = .skip ∧ v = undef)) ∧ Rp w' I' μ' d v ∧ Inv B w0 I' μ' h' w' ∧ Go1 I I' μ μ' w w' ∧ (∀ l, μ l = none → l ≠ k → μ' l = none) ∧ (∀ b, I' b → I b ∨ B ≤ b)
theorem Res.pure {s : Sem Next} {v : Value} (hi : Inv B w0 I μ h w) (hr : s.run P w = .ok (.value v) w) (hd : Rp w I μ d v) : Res P B w0 I μ w k s d h :=
  ⟨_, v, w, I, μ, hr, .inl rfl, hd, hi, .refl _ _ _, fun _ h _ => h, fun _ h => .inl h⟩

theorem Rp.asB {v : Value} (hv : Rp w I μ d v) {b : Bool} (hb : AE.asB d = some b) : v = .bool b ∧ d = .bool b := by
  cases d <;> simp [AE.asB] at hb
  subst hb
  cases hv with
  | im h => cases h; exact ⟨rfl, rfl⟩
theorem Rp.asI {v : Value} (hv : Rp w I μ d v) {n : Int} (hb : AE.asI d = some n) : ∃ k, v = .int k n ∧ d = .int k n := by
  cases d <;> simp [AE.asI] at hb
  subst hb
  cases hv with
  | im h => cases h; exact ⟨_, rfl, rfl⟩
theorem Rp.cells {v : Value} {cs : List D} (hv : Rp w I μ d v) (hc : d.cells = some cs) : RpL w I μ cs v.cells.toList ∧ (∀ d ∈ cs, D.leaf d = true) := by
  unfold D.cells at hc
  split at hc
  · rename_i cs'
    split at hc
    · rename_i hl
      obtain rfl := Option.some.inj hc
      refine ⟨?_, List.all_eq_true.1 hl⟩
      cases hv with
      | im h => cases h with | agg vs hs h => exact ⟨by simpa [Value.cells] using hs, fun j d v a b => .im (h j d v a (by simpa [Value.cells] using b))⟩
      | agg vs hs h => exact ⟨by simpa [Value.cells] using hs, fun j d v a b => h j d v a (by simpa [Value.cells] using b)⟩
    · cases hc
  · split at hc
    · rename_i hl
      obtain rfl := Option.some.inj hc
      refine ⟨?_, by simpa using hl⟩
      have : v.cells = #[v] := by
        cases hv with
        | im h => cases h <;> first | rfl | cases hl
        | _ => first | rfl | cases hl
      rw [this]
      exact .cons hv .nil
    · cases hc
end
end Go.Proofs.Ytbpccdengeakgaa.AE
