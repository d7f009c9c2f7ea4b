/-
  A small evaluator over data (AE), part 1: the data, the operations, the evaluation. No program in sight.
-/
import Derived.WalkKit
import Derived.KernelRfl
import Derived.Below
import Derived.Maps.AppendAt
import Derived.Laws.OwnMore
import Derived.Deep.MidRow
import Derived.LoopN
import Derived.Orders
import Derived.Laws.StructEq
import Derived.Laws.MakeOwn
set_option linter.unusedVariables false
namespace Go.Proofs.Ytpdamhhaepcffaa.AE
open Go Go.RowKit

/-- Data: what a Go value is, memory left out. -/
inductive D where
  | und
  | int (k : IntKind) (n : Int)
  | bool (b : Bool)
  | str (s : ByteArray)
  | nlf
  | nls
  | isl (xs : List (List D))
  | agg (cs : List D)
  | tup (cs : List D)
  | ipt (cs : List D) (o : Nat)
  | ptr (l i o : Nat)
  | osl (l : Nat)
  | mpr (l : Nat)
  | fn (f : Nat) (caps : List D)
  | own (e sz : Nat) (xs : List (List D))

/-- An operand. -/
inductive X where
  | t (k : Nat)
  | c (d : D)

/-- A block of the call's own. -/
inductive Ob where
  | no
  | var (cs : List D) (own : Bool)
  | row (e sz : Nat) (xs : List (List D)) (own : Bool)
  | mp (es : List (ByteArray × D))

abbrev Env := Nat → D
abbrev Hp := Nat → Ob
def eput (e : Env) (k : Nat) (d : D) : Env := fun i => if i = k then d else e i
def hput (h : Hp) (k : Nat) (o : Ob) : Hp := fun i => if i = k then o else h i
theorem eput_same (e : Env) (k : Nat) (d : D) : eput e k d k = d := by simp [eput]
theorem eput_ne (e : Env) {k j : Nat} (d : D) (h : j ≠ k) : eput e k d j = e j := by simp [eput, h]
theorem hput_same (h : Hp) (k : Nat) (d : Ob) : hput h k d k = d := by simp [hput]
theorem hput_ne (h : Hp) {k j : Nat} (d : Ob) (hn : j ≠ k) : hput h k d j = h j := by simp [hput, hn]

def X.ev (e : Env) : X → D
  | .t k => e k
  | .c d => d

/-- The operations. -/
inductive XOp where
  | mv (x : X)
  | pick (c a b : X)
  | alloc (z : List D)
  | box (n : Nat) (x : X)
  | build (z : List D) (ps : List (Nat × Nat × X))
  | bsl (e sz : Nat) (z : List D) (n : Nat) (ps : List (Nat × X))
  | load (n : Nat) (ag : Bool) (x : X)
  | store (n : Nat) (x y : X)
  | bin (bt : Bool) (op : BinOp) (x y : X)
  | eqs (neg : Bool) (ks : List Nat) (x y : X)
  | un (op : UnOp) (x : X)
  | ext (x : X) (k : Nat)
  | fld (n : Nat) (ag : Bool) (off : Nat) (x : X)
  | fad (off : Nat) (x : X)
  | iaA (n sz : Nat) (x i : X)
  | iaS (sz : Nat) (x i : X)
  | ixS (x i : X)
  | len (st : Bool) (x : X)
  | app (e sz bytes : Nat) (x y : X)
  | call (f : Nat) (xs : List X)
  | callv (x : X) (xs : List X)
  | mkfn (f : Nat) (xs : List X)
  | slS (x : X) (lo hi : Option X)
  | mks (e sz bytes : Nat) (z : List D) (x y : X)
  | mkmap
  | mget (z : D) (x i : X)
  | mput (x i y : X)
  | nilc (x : X)
  | cvi (kd : IntKind) (x : X)
  | bsf (e sz : Nat) (z : List D) (n : Nat) (ps : List (Nat × X))
  | bdf (z : List D) (ps : List (Nat × Nat × X))
  | mm (hi : Bool) (x y : X)

structure XO where
  dst : Option Nat
  g : Option (Nat × Bool)
  op : XOp
  bef : List Nat

inductive XC where
  | skip
  | reg (draw : Bool) (prs : List (Nat × Nat)) (ops : List XO)
  | seq (a b : XC)
  | cond (x : X) (a b : XC)
  | blk (id : Nat) (a : XC)
  | loop (a : XC)
  | exit (id : Nat)
  | ret

structure XF where
  nt : Nat
  body : XC
  res : List (Nat × Option (Nat × Bool))

inductive Ex where
  | nrm
  | exit (id : Nat)
  | ret

structure St where
  e : Env
  h : Hp
  k : Nat

/-! ### cells -/
def D.leaf : D → Bool
  | .agg _ | .tup _ | .und | .own .. => false
  | _ => true
def D.cells : D → Option (List D)
  | .agg cs => if cs.all D.leaf then some cs else none
  | d => if d.leaf then some [d] else none
def mkD (ag : Bool) (cs : List D) : Option D := if ag then some (.agg cs) else match cs with
  | [d] => some d
  | _ => none
/-- n cells from o on. -/
def sub (cs : List D) (o n : Nat) : Option (List D) := if o + n ≤ cs.length then some ((cs.drop o).take n) else none
def spl {α : Type} (cs : List α) (o : Nat) (ds : List α) : List α := cs.take o ++ ds ++ cs.drop (o + ds.length)
/-- A datum that reads no block of the call's own. -/
def D.im : D → Bool
  | .ptr .. | .osl _ | .mpr _ | .agg _ | .tup _ | .own .. => false
  | .fn _ caps => caps.isEmpty
  | _ => true
/-- The same, or a struct of such. -/
def D.imA : D → Bool
  | .agg cs => cs.all D.im
  | .fn _ caps => caps.all D.im
  | d => d.im
/-- The same, or a function value that holds such. -/
def D.imF : D → Bool
  | .fn _ caps => caps.all D.im
  | d => d.im

/-! ### freezing: blocks of the own are given up; what refers to them reads them as they are -/
def frzL (g : Hp → D → Option (D × Hp)) : Hp → List D → Option (List D × Hp)
  | h, [] => some ([], h)
  | h, d :: r => (g h d).bind fun p => (frzL g p.2 r).bind fun q => some (p.1 :: q.1, q.2)
def frz : Nat → Hp → D → Option (D × Hp)
  | 0, _, _ => none
  | n + 1, h, d => match d with
    | .osl l => match h l with
      | .row e sz xs _ => some (.isl xs, hput h l (.row e sz xs false))
      | _ => none
    | .ptr l i o => match h l with
      | .var cs _ => if i = 0 then (frzL (frz n) h cs).bind fun p => match p.2 l with
          | .var _ _ => some (.ipt p.1 o, hput p.2 l (.var p.1 false))
          | _ => none
        else none
      | .row e sz xs _ => match xs[i]? with
        | some x => some (.ipt x o, hput h l (.row e sz xs false))
        | none => none
      | _ => none
    | .agg cs => (frzL (frz n) h cs).bind fun p => some (.agg p.1, p.2)
    | .fn f caps => (frzL (frz n) h caps).bind fun p => some (.fn f p.1, p.2)
    | .tup _ => none
    | .mpr _ => none
    | .own .. => none
    | d => some (d, h)
/-- What a call hands back: rows of its own as rows; all else frozen. -/
def retL : Hp → List D → Option (List D)
  | _, [] => some []
  | h, d :: r => match d with
    | .osl l => match h l with
      | .row e sz xs true => (retL (hput h l .no) r).bind fun q => some (.own e sz xs :: q)
      | _ => (frz 9 h d).bind fun p => (retL p.2 r).bind fun q => some (p.1 :: q)
    | d => (frz 9 h d).bind fun p => (retL p.2 r).bind fun q => some (p.1 :: q)
def D.scalar : D → Bool
  | .int .. | .bool _ | .str _ => true
  | _ => false
/-- What came back is taken in: rows become blocks k, k + 1, .. -/
def takeIn (h : Hp) : Nat → List D → List D × Hp
  | _, [] => ([], h)
  | k, d :: r => match d with
    | .own e sz xs => let q := takeIn (hput h k (.row e sz xs true)) (k + 1) r; (.osl k :: q.1, q.2)
    | d => let q := takeIn h (k + 1) r; (d :: q.1, q.2)
def one (ds : List D) : D := match ds with
  | [d] => d
  | ds => .tup ds

/-! ### the plain operations -/
def asI : D → Option Int
  | .int _ n => some n
  | _ => none
def asN : D → Option Nat
  | .int .i64 n => if 0 ≤ n then some n.toNat else none
  | _ => none
def asB : D → Option Bool
  | .bool b => some b
  | _ => none
/-- Cells of a struct compared: kinds 0 (whole numbers), 1 (bools), 2 (strings). -/
def eqC (k : Nat) : D → D → Option Bool
  | .int a x, .int b y => if k = 0 ∧ a = b then some (x == y) else none
  | .bool x, .bool y => if k = 1 then some (x == y) else none
  | .str x, .str y => if k = 2 then some (x.toList == y.toList) else none
  | _, _ => none
def eqL : List Nat → List D → List D → Option Bool
  | [], [], [] => some true
  | k :: ks, a :: r, b :: q => (eqC k a b).bind fun t => (eqL ks r q).bind fun u => some (t && u)
  | _, _, _ => none
def binD (bt : Bool) (op : BinOp) : D → D → Option D
  | .int k a, .int k' b => if k = k' then match op with
      | .add => some (.int k (k.wrap (a + b)))
      | .sub => some (.int k (k.wrap (a - b)))
      | .mul => some (.int k (k.wrap (a * b)))
      | .eql => some (.bool (a == b))
      | .neq => some (.bool (a != b))
      | .lss => some (.bool (a < b))
      | .leq => some (.bool (a ≤ b))
      | .gtr => some (.bool (a > b))
      | .geq => some (.bool (a ≥ b))
      | _ => none
    else none
  | .str a, .str b => match op with
      | .add => if a.size + b.size ≤ 9223372036854775807 then some (.str (a ++ b)) else none
      | .eql => some (.bool (a.toList == b.toList))
      | .neq => some (.bool (!(a.toList == b.toList)))
      | .lss => some (.bool (Op.bytesLess a.toList b.toList))
      | .leq => some (.bool (Op.bytesLess a.toList b.toList || a.toList == b.toList))
      | .gtr => some (.bool (!(Op.bytesLess a.toList b.toList || a.toList == b.toList)))
      | .geq => some (.bool (!Op.bytesLess a.toList b.toList))
      | _ => none
  | .bool a, .bool b => if bt then match op with
      | .eql => some (.bool (a == b))
      | .neq => some (.bool (!(a == b)))
      | _ => none
    else none
  | _, _ => none
/-- The greater (hi) or the less of two. -/
def mmD (hi : Bool) : D → D → Option D
  | .int k a, .int k' b => if k = k' then some (.int k (if hi then (if b > a then b else a) else (if b < a then b else a))) else none
  | _, _ => none
def unD (op : UnOp) : D → Option D
  | .bool b => match op with
    | .not => some (.bool !b)
    | _ => none
  | .int k n => match op with
    | .neg => some (.int k (k.wrap (0 - n)))
    | _ => none
  | _ => none
def fillD (cs : List D) : List (Nat × Nat × D) → Option (List D)
  | [] => some cs
  | (off, n, d) :: r => match d.cells with
    | some ds => if ds.length = n ∧ off + n ≤ cs.length then fillD (spl cs off ds) r else none
    | none => none
def fillR (sz : Nat) (xs : List (List D)) : List (Nat × D) → Option (List (List D))
  | [] => some xs
  | (i, d) :: r => match d.cells with
    | some ds => if ds.length = sz ∧ i < xs.length ∧ ds.all D.imF then fillR sz (xs.set i ds) r else none
    | none => none
def cellsAt (h : Hp) (n : Nat) : D → Option (List D)
  | .ipt cs o => sub cs o n
  | .ptr l i o => match h l with
    | .var cs _ => if i = 0 then sub cs o n else none
    | .row _ _ xs _ => match xs[i]? with
      | some x => sub x o n
      | none => none
    | _ => none
  | _ => none
def putAt (h : Hp) (n : Nat) (ds : List D) : D → Option Hp
  | .ptr l i o => match h l with
    | .var cs true => if i = 0 ∧ o + n ≤ cs.length ∧ ds.length = n then some (hput h l (.var (spl cs o ds) true)) else none
    | .row e sz xs true => match xs[i]? with
      | some x => if o + n ≤ x.length ∧ ds.length = n ∧ ds.all D.imF then some (hput h l (.row e sz (xs.set i (spl x o ds)) true)) else none
      | none => none
    | _ => none
  | _ => none
/-- The elements of a slice that is read. -/
def elems (h : Hp) : D → Option (List (List D))
  | .nls => some []
  | .isl xs => some xs
  | .osl l => match h l with
    | .row _ _ xs _ => some xs
    | _ => none
  | _ => none
def mfind (k : ByteArray) : List (ByteArray × D) → Option D
  | [] => none
  | (a, d) :: r => if k == a then some d else mfind k r
def mset (k : ByteArray) (v : D) : List (ByteArray × D) → List (ByteArray × D)
  | [] => [(k, v)]
  | (a, d) :: r => if k == a then (k, v) :: r else (a, d) :: mset k v r
/-- The bound of lists that grow. -/
abbrev Lim : Nat := 68719476736
/-- n elements of so many bytes may be had by appends. -/
def LimA (bytes n : Nat) : Prop := n ≤ Lim ∨ (bytes ≤ 64 ∧ n ≤ 2199023255552)
instance (b n : Nat) : Decidable (LimA b n) := by unfold LimA; infer_instance

/-- How a call is carried out: no: as a function of data; yes: on the caller's own blocks. -/
abbrev Calls1 := Nat → List D → Hp → Nat → Option (List D × Hp × Nat)

/-- A bound of a cut. -/
def bnd (e : Env) (z : Nat) : Option X → Option Nat
  | none => some z
  | some x => asN (x.ev e)
/-- One plain operation (no call): what it yields, and the blocks behind it; k: the name of a new block. -/
def evP (e : Env) (h : Hp) (k : Nat) : XOp → Option (D × Hp)
  | .mv x => some (x.ev e, h)
  | .pick c a b => (asB (c.ev e)).bind fun t => some (if t then a.ev e else b.ev e, h)
  | .alloc z => some (.ptr k 0 0, hput h k (.var z true))
  | .box n x => (x.ev e).cells.bind fun cs => if cs.length = n then some (.ptr k 0 0, hput h k (.var cs true)) else none
  | .build z ps => (fillD z (ps.map fun p => (p.1, p.2.1, p.2.2.ev e))).bind fun cs => some (.agg cs, h)
  | .bsl t sz z n ps => (frzL (fun h d => frz 9 h d) h (ps.map fun p => p.2.ev e)).bind fun q => (fillR sz (List.replicate n z) ((ps.map (·.1)).zip q.1)).bind fun xs => some (.osl k, hput q.2 k (.row t sz xs true))
  | .load n ag x => (cellsAt h n (x.ev e)).bind fun cs => (mkD ag cs).bind fun d => some (d, h)
  | .store n x y => (y.ev e).cells.bind fun cs => (putAt h n cs (x.ev e)).bind fun h' => some (.und, h')
  | .bin bt op x y => (binD bt op (x.ev e) (y.ev e)).bind fun d => some (d, h)
  | .eqs neg ks x y => match x.ev e, y.ev e with
    | .agg cs, .agg ds => (eqL ks cs ds).bind fun t => some (.bool (if neg then !t else t), h)
    | _, _ => none
  | .un op x => (unD op (x.ev e)).bind fun d => some (d, h)
  | .ext x k => match x.ev e with
    | .tup cs => cs[k]?.bind fun d => some (d, h)
    | _ => none
  | .fld n ag off x => match x.ev e with
    | .agg cs => (sub cs off n).bind fun ds => (mkD ag ds).bind fun d => some (d, h)
    | _ => none
  | .fad off x => match x.ev e with
    | .ipt cs o => some (.ipt cs (o + off), h)
    | .ptr l i o => some (.ptr l i (o + off), h)
    | _ => none
  | .iaA n sz x i => (asI (i.ev e)).bind fun j => if 0 ≤ j ∧ j < n then match x.ev e with
      | .ipt cs o => some (.ipt cs (o + j.toNat * sz), h)
      | .ptr l i o => some (.ptr l i (o + j.toNat * sz), h)
      | _ => none
    else none
  | .iaS sz x i => (asI (i.ev e)).bind fun j => if 0 ≤ j then match x.ev e with
      | .isl xs => match xs[j.toNat]? with
        | some y => if y.length = sz then some (.ipt y 0, h) else none
        | none => none
      | .osl l => match h l with
        | .row _ sz' xs _ => if sz' = sz ∧ j.toNat < xs.length then some (.ptr l j.toNat 0, h) else none
        | _ => none
      | _ => none
    else none
  | .ixS x i => (asI (i.ev e)).bind fun j => match x.ev e with
      | .str s => if h0 : 0 ≤ j ∧ j.toNat < s.size then some (.int .u8 (s[j.toNat]'h0.2).toNat, h) else none
      | _ => none
  | .len st x => if st then match x.ev e with
      | .str s => some (.int .i64 s.size, h)
      | _ => none
    else (elems h (x.ev e)).bind fun xs => some (.int .i64 xs.length, h)
  | .app t sz bytes x y => (elems h (y.ev e)).bind fun ys => match x.ev e with
    | .nls => if LimA bytes ys.length ∧ (ys.all fun y => decide (y.length = sz)) then some (.osl k, hput h k (.row t sz ys true)) else none
    | .osl l => match h l with
      | .row t' sz' xs true => if t' = t ∧ sz' = sz ∧ LimA bytes (xs.length + ys.length) ∧ (ys.all fun y => decide (y.length = sz)) then some (.osl k, hput (hput h l .no) k (.row t sz (xs ++ ys) true)) else none
      | _ => none
    | _ => none
  | .mkfn f xs => some (.fn f (xs.map (X.ev e)), h)
  | .slS x lo hi => match x.ev e with
    | .str s => (bnd e 0 lo).bind fun a => (bnd e s.size hi).bind fun b => if a ≤ b ∧ b ≤ s.size then some (.str (s.extract a b), h) else none
    | _ => none
  | .mks t sz bytes z x y => (asN (x.ev e)).bind fun n => (asN (y.ev e)).bind fun m => if n = m ∧ n ≤ Lim then some (.osl k, hput h k (.row t sz (List.replicate n z) true)) else none
  | .mkmap => some (.mpr k, hput h k (.mp []))
  | .mget z x i => match x.ev e, i.ev e with
    | .mpr l, .str s => match h l with
      | .mp es => some ((mfind s es).getD z, h)
      | _ => none
    | _, _ => none
  | .mput x i y => match x.ev e, i.ev e with
    | .mpr l, .str s => match h l with
      | .mp es => if (y.ev e).leaf ∧ (y.ev e).im then some (.und, hput h l (.mp (mset s (y.ev e) es))) else none
      | _ => none
    | _, _ => none
  | .nilc x => match x.ev e with
    | .ipt cs o => some (.ipt cs o, h)
    | .ptr l i o => some (.ptr l i o, h)
    | _ => none
  | .bsf t sz z n ps => (frzL (fun h d => frz 9 h d) h (ps.map fun p => p.2.ev e)).bind fun q => (fillR sz (List.replicate n z) ((ps.map (·.1)).zip q.1)).bind fun xs => some (.isl xs, hput q.2 k (.row t sz xs false))
  | .bdf z ps => (fillD z (ps.map fun p => (p.1, p.2.1, p.2.2.ev e))).bind fun cs => frz 9 h (.agg cs)
  | .cvi kd x => (asI (x.ev e)).bind fun n => some (.int kd (kd.wrap n), h)
  | .mm hi x y => (mmD hi (x.ev e) (y.ev e)).bind fun d => some (d, h)
  | .call .. => none
  | .callv .. => none

/-- Names that one operation may make. -/
abbrev W8 : Nat := 8
/-- A call as a function of data. -/
def callP (C : Calls1) (f : Nat) (args : List D) : Option (List D) := (C f args (fun _ => .no) 0).bind fun r => retL r.2.1 r.1
/-- What is called, with what. -/
def target (e : Env) : XOp → Option (Nat × List D)
  | .call f xs => some (f, xs.map (X.ev e))
  | .callv x xs => match x.ev e with
    | .fn f caps => some (f, xs.map (X.ev e) ++ caps)
    | _ => none
  | _ => none
def isCall : XOp → Bool
  | .call .. | .callv .. => true
  | _ => false
/-- One operation. n: the next name for calls on the caller's own blocks. -/
def evOp (md : Nat → Bool) (C : Calls1) (e : Env) (h : Hp) (k n : Nat) (o : XOp) : Option (D × Hp × Nat) :=
  if isCall o then (target e o).bind fun t => if md t.1 then (C t.1 t.2 h n).bind fun r => some (one r.1, r.2.1, r.2.2)
    else (frzL (fun h d => frz 9 h d) h t.2).bind fun q => (callP C t.1 q.1).bind fun r =>
      if r.all D.scalar then some (one r, h, n) else if r.length ≤ W8 then let p := takeIn q.2 k r; some (one p.1, p.2, n) else none
  else (evP e h k o).bind fun r => some (r.1, r.2, n)

def wantedD (e : Env) : Option (Nat × Bool) → Option Bool
  | none => some true
  | some (t, b) => match e t with
    | .bool c => some (c == b)
    | .und => some false
    | _ => none
def eputO (e : Env) (dst : Option Nat) (d : D) : Env := match dst with
  | none => e
  | some k => eput e k d
def evOps (md : Nat → Bool) (C : Calls1) (k : Nat) : List XO → St → Option St
  | [], s => some s
  | o :: r, s => (wantedD s.e o.g).bind fun w => if w then
      (evOp md C s.e s.h k s.k o.op).bind fun q => evOps md C (k + W8) r ⟨eputO s.e o.dst q.1, q.2.1, q.2.2⟩
    else evOps md C (k + W8) r ⟨eputO s.e o.dst .und, s.h, s.k⟩

/-! ### regions whose order is drawn -/
/-- The blocks of the own that an operation reads, and that it writes. -/
def D.nm : D → List Nat
  | .ptr l _ _ => [l]
  | .osl l => [l]
  | .mpr l => [l]
  | _ => []
def touch (e : Env) : XOp → List Nat × List Nat
  | .load _ _ x => ((x.ev e).nm, [])
  | .store _ x _ => ([], (x.ev e).nm)
  | .iaS _ x _ => ((x.ev e).nm, [])
  | .len _ x => ((x.ev e).nm, [])
  | .app _ _ _ x y => ((y.ev e).nm, (x.ev e).nm)
  | .call f xs => ((xs.map (X.ev e)).flatMap D.nm, [])
  | .callv x xs => match x.ev e with
    | .fn _ caps => ((xs.map (X.ev e) ++ caps).flatMap D.nm, [])
    | _ => ([], [])
  | _ => ([], [])
def isOslIm : D → Bool
  | .osl _ => true
  | d => d.imA
/-- What may stand in such a region. -/
def okD (md : Nat → Bool) (C : Calls1) (e : Env) (h : Hp) : XOp → Bool
  | .bsl _ _ _ _ ps => (ps.map fun p => p.2.ev e).all D.imA
  | .bsf _ _ _ _ ps => (ps.map fun p => p.2.ev e).all D.imA
  | .bdf .. => false
  | .mkmap | .mget .. | .mput .. => false
  | .app _ _ _ x y => !(((x.ev e).nm).any fun l => ((y.ev e).nm).contains l)
  | .call f xs => !md f && (((xs.map (X.ev e)).all D.imA) || (((xs.map (X.ev e)).all isOslIm) && (((frzL (fun h d => frz 9 h d) h (xs.map (X.ev e))).bind fun q => callP C f q.1).any fun r => r.all D.scalar)))
  | .callv x xs => match x.ev e with
    | .fn f caps => !md f && (((xs.map (X.ev e) ++ caps).all D.imA) || (((xs.map (X.ev e) ++ caps).all isOslIm) && (((frzL (fun h d => frz 9 h d) h (xs.map (X.ev e) ++ caps)).bind fun q => callP C f q.1).any fun r => r.all D.scalar)))
    | _ => false
  | _ => true
/-- The operations of such a region in the text's order, with what each touches. -/
def evOpsD (md : Nat → Bool) (C : Calls1) (k : Nat) : List XO → St → Option (List (List Nat × List Nat) × St)
  | [], s => some ([], s)
  | o :: r, s => (wantedD s.e o.g).bind fun w => if w then
      if okD md C s.e s.h o.op then (evOp md C s.e s.h k s.k o.op).bind fun q => (evOpsD md C (k + W8) r ⟨eputO s.e o.dst q.1, q.2.1, q.2.2⟩).bind fun z => some (touch s.e o.op :: z.1, z.2)
      else none
    else (evOpsD md C (k + W8) r ⟨eputO s.e o.dst .und, s.h, s.k⟩).bind fun z => some (([], []) :: z.1, z.2)
def apartT (x y : List Nat × List Nat) : Bool := !(x.2.any fun l => y.1.contains l || y.2.contains l) && !(y.2.any fun l => x.1.contains l)
def prsOk (ts : List (List Nat × List Nat)) (prs : List (Nat × Nat)) : Bool := prs.all fun p => apartT (ts.getD p.1 ([], [])) (ts.getD p.2 ([], []))

def X.tm : X → List Nat
  | .t k => [k]
  | .c _ => []
def X.ok : X → Bool
  | .t _ => true
  | .c d => d.im
def XOp.xs : XOp → List X
  | .mv x | .un _ x | .ext x _ | .fld _ _ _ x | .fad _ x | .load _ _ x | .len _ x | .box _ x | .nilc x | .cvi _ x => [x]
  | .pick c a b => [c, a, b]
  | .alloc _ | .mkmap => []
  | .build _ ps | .bdf _ ps => ps.map fun p => p.2.2
  | .bsl _ _ _ _ ps | .bsf _ _ _ _ ps => ps.map fun p => p.2
  | .store _ x y | .bin _ _ x y | .eqs _ _ x y | .iaA _ _ x y | .iaS _ x y | .ixS x y | .app _ _ _ x y | .mks _ _ _ _ x y | .mget _ x y | .mm _ x y => [x, y]
  | .mput x y z => [x, y, z]
  | .call _ xs | .mkfn _ xs => xs
  | .callv x xs => x :: xs
  | .slS x lo hi => x :: (lo.toList ++ hi.toList)
def XO.rd (o : XO) : List Nat := o.op.xs.flatMap X.tm ++ (match o.g with | none => [] | some (t, _) => [t])
/-- No temporary is written by the one and named by the other. -/
def XO.apart (x y : XO) : Bool := (match x.dst with | none => true | some t => !y.rd.contains t && y.dst != some t) && (match y.dst with | none => true | some t => !x.rd.contains t)
/-- 2: writes blocks that are there; 1: reads them; 0: neither. -/
def XOp.kd : XOp → Nat
  | .store .. | .app .. => 2
  | .load .. | .iaS .. | .len .. | .call .. | .callv .. => 1
  | _ => 0
def maskOf (acc b : List Nat) : Nat := b.foldr (fun p s => 2 ^ p ||| acc.getD p 0 ||| s) 0
def masks : List XO → List Nat → List Nat
  | [], acc => acc
  | o :: r, acc => masks r (acc ++ [maskOf acc o.bef])
def statD (xs : List XO) : Bool := let M := masks xs []; (List.range xs.length).all fun i => match xs[i]? with
  | some oi => oi.op.xs.all X.ok && oi.bef.all (fun p => decide (p < i)) && (List.range i).all fun j => (M.getD i 0).testBit j || (match xs[j]? with | some oj => oj.apart oi | none => true)
  | none => true
def mkPrs (xs : List XO) : List (Nat × Nat) := let M := masks xs []; (List.range xs.length).flatMap fun i => match xs[i]? with
  | some oi => (List.range i).flatMap fun j => match xs[j]? with
    | some oj => if !(M.getD i 0).testBit j && ((oi.op.kd == 2 && oj.op.kd != 0) || (oj.op.kd == 2 && oi.op.kd != 0)) then [(j, i)] else []
    | none => []
  | none => []
def iter (f : St → Option (Ex × St)) : Nat → St → Option (Ex × St)
  | 0, _ => none
  | n + 1, s => (f s).bind fun r => match r.1 with
    | .nrm => iter f n r.2
    | x => some (x, r.2)
def evC (md : Nat → Bool) (C : Calls1) (n : Nat) : XC → St → Option (Ex × St)
  | .skip, s => some (.nrm, s)
  | .reg draw prs ops, s => if draw then (evOpsD md C s.k ops ⟨s.e, s.h, s.k + W8 * ops.length⟩).bind fun z => if prsOk z.1 prs then some (.nrm, z.2) else none
    else (evOps md C s.k ops ⟨s.e, s.h, s.k + W8 * ops.length⟩).bind fun s' => some (.nrm, s')
  | .seq a b, s => (evC md C n a s).bind fun r => match r.1 with
    | .nrm => evC md C n b r.2
    | x => some (x, r.2)
  | .cond x a b, s => (asB (x.ev s.e)).bind fun t => if t then evC md C n a s else evC md C n b s
  | .blk id a, s => (evC md C n a s).bind fun r => match r.1 with
    | .exit j => if j = id then some (.nrm, r.2) else some (.exit j, r.2)
    | x => some (x, r.2)
  | .loop a, s => iter (evC md C n a) n s
  | .exit id, s => some (.exit id, s)
  | .ret, s => some (.ret, s)
def envOf : List D → Env
  | [] => fun _ => .und
  | d :: r => fun i => match i with
    | 0 => d
    | i + 1 => envOf r i
def resOf (s : St) : List (Nat × Option (Nat × Bool)) → Option (List D)
  | [] => some []
  | (t, none) :: r => (resOf s r).bind fun q => some (s.e t :: q)
  | (t, some (n, ag)) :: r => (cellsAt s.h n (s.e t)).bind fun cs => (mkD ag cs).bind fun d => (resOf s r).bind fun q => some (d :: q)
def runF (xp : Nat → Option XF) (md : Nat → Bool) : Nat → Calls1
  | 0 => fun _ _ _ _ => none
  | n + 1 => fun f args h k => (xp f).bind fun F => if F.nt < args.length then none else (evC md (runF xp md n) n F.body ⟨envOf args, h, k⟩).bind fun r => match r.1 with
    | .exit _ => none
    | _ => (resOf r.2 F.res).bind fun ds => some (ds, r.2.h, r.2.k)
end Go.Proofs.Ytpdamhhaepcffaa.AE
/-
  AE, part 2: what memory says of data (Im: of data that nobody writes; Rp: of data that may lie in blocks of the call's own), and that it lasts.
-/
set_option linter.unusedVariables false
namespace Go.Proofs.Ytpdamhhaepcffaa.AE
open Go Go.RowKit

theorem add_block (a : Addr) (n : Nat) : (a.add n).block = a.block := by unfold Addr.add; split <;> rfl
theorem cell_of_block {w w' : World} {a : Addr} (h : w'.heap[a.block]? = w.heap[a.block]?) : w'.cell? a = w.cell? a := World.cell?_of_block h

/-- Data that reads only blocks of I. -/
inductive Im (w : World) (I : Nat → Prop) : D → Value → Prop
  | und : Im w I .und undef
  | int (k : IntKind) (n : Int) : Im w I (.int k n) (.int k n)
  | bool (b : Bool) : Im w I (.bool b) (.bool b)
  | str (s : ByteArray) : Im w I (.str s) (.string s)
  | nlf : Im w I .nlf .nilFunc
  | nlm : Im w I .nlf (.map none)
  | nls : Im w I .nls (.slice none 0 0)
  | isl {xs : List (List D)} {A : Option Addr} {c sz : Nat} (f : Nat → Nat → Value) (hc : xs.length ≤ c) (hlen : ∀ x ∈ xs, x.length = sz) (hlf : ∀ x ∈ xs, ∀ d ∈ x, D.leaf d = true)
      (h : xs ≠ [] → ∃ ad, A = some ad ∧ I ad.block ∧ ∀ i j x d, xs[i]? = some x → x[j]? = some d → w.cell? (ad.add (i * sz + j)) = some (f i j))
      (hr : ∀ i j x d, xs[i]? = some x → x[j]? = some d → Im w I d (f i j)) : Im w I (.isl xs) (.slice A xs.length c)
  | agg {cs : List D} (vs : List Value) (hs : cs.length = vs.length) (h : ∀ (j : Nat) (d : D) (v : Value), cs[j]? = some d → vs[j]? = some v → Im w I d v) : Im w I (.agg cs) (.agg vs.toArray)
  | tup {cs : List D} (vs : List Value) (hs : cs.length = vs.length) (h : ∀ (j : Nat) (d : D) (v : Value), cs[j]? = some d → vs[j]? = some v → Im w I d v) : Im w I (.tup cs) (.tuple vs.toArray)
  | ipt {cs : List D} {o : Nat} {ad : Addr} (f : Nat → Value) (hI : I ad.block) (hlf : ∀ d ∈ cs, D.leaf d = true) (h : ∀ (j : Nat) (d : D), cs[o + j]? = some d → w.cell? (ad.add j) = some (f j))
      (hr : ∀ (j : Nat) (d : D), cs[o + j]? = some d → Im w I d (f j)) : Im w I (.ipt cs o) (.pointer (some ad))
  | fn {f : Nat} {cs : List D} (vs : List Value) (hs : cs.length = vs.length) (h : ∀ (j : Nat) (d : D) (v : Value), cs[j]? = some d → vs[j]? = some v → Im w I d v) : Im w I (.fn f cs) (.func (.func f) #[] vs.toArray)

theorem Im.mono {w w' : World} {I I' : Nat → Prop} (hI : ∀ b, I b → I' b) (hw : ∀ b, I b → w'.heap[b]? = w.heap[b]?) {d : D} {v : Value} (h : Im w I d v) : Im w' I' d v := by
  induction h with
  | und => exact .und
  | int k n => exact .int k n
  | bool b => exact .bool b
  | str s => exact .str s
  | nlf => exact .nlf
  | nlm => exact .nlm
  | nls => exact .nls
  | isl f hc hlen hlf h hr ih =>
    refine .isl f hc hlen hlf (fun hn => ?_) ih
    obtain ⟨ad, rfl, hb, hcell⟩ := h hn
    exact ⟨ad, rfl, hI _ hb, fun i j x d hx hd => (cell_of_block (w := w) (w' := w') (by rw [add_block]; exact hw _ hb)).trans (hcell i j x d hx hd)⟩
  | agg vs hs h ih => exact .agg vs hs ih
  | tup vs hs h ih => exact .tup vs hs ih
  | ipt f hb hlf h hr ih => exact .ipt f (hI _ hb) hlf (fun j d hd => (cell_of_block (w := w) (w' := w') (by rw [add_block]; exact hw _ hb)).trans (h j d hd)) ih
  | fn vs hs h ih => exact .fn vs hs ih

/-- Where a block of the call's own lies: its number (none: no memory), its elements' size, the slice's value. -/
structure Pl where
  b : Option Nat
  sz : Nat
  val : Value
abbrev Mu := Nat → Option Pl

/-- Data whose parts may lie in blocks of the call's own. -/
inductive Rp (w : World) (I : Nat → Prop) (μ : Mu) : D → Value → Prop
  | im {d : D} {v : Value} (h : Im w I d v) : Rp w I μ d v
  | ptr {l i o b : Nat} {p : Pl} (h : μ l = some p) (hb : p.b = some b) : Rp w I μ (.ptr l i o) (.pointer (some ⟨b, i * p.sz + o, none⟩))
  | osl {l : Nat} {p : Pl} {A : Option Addr} {n c : Nat} (h : μ l = some p) (hv : p.val = .slice A n c) : Rp w I μ (.osl l) (.slice A n c)
  | mpr {l b : Nat} {p : Pl} (h : μ l = some p) (hb : p.b = some b) : Rp w I μ (.mpr l) (.map (some b))
  | agg {cs : List D} (vs : List Value) (hs : cs.length = vs.length) (h : ∀ (j : Nat) (d : D) (v : Value), cs[j]? = some d → vs[j]? = some v → Rp w I μ d v) : Rp w I μ (.agg cs) (.agg vs.toArray)
  | tup {cs : List D} (vs : List Value) (hs : cs.length = vs.length) (h : ∀ (j : Nat) (d : D) (v : Value), cs[j]? = some d → vs[j]? = some v → Rp w I μ d v) : Rp w I μ (.tup cs) (.tuple vs.toArray)
  | fn {f : Nat} {cs : List D} (vs : List Value) (hs : cs.length = vs.length) (h : ∀ (j : Nat) (d : D) (v : Value), cs[j]? = some d → vs[j]? = some v → Rp w I μ d v) : Rp w I μ (.fn f cs) (.func (.func f) #[] vs.toArray)

/-- The world has gone on: what nobody writes is as it was; names stay. -/
structure Go1 (I I' : Nat → Prop) (μ μ' : Mu) (w w' : World) : Prop where
  imp : ∀ b, I b → I' b
  blk : ∀ b, I b → w'.heap[b]? = w.heap[b]?
  nam : ∀ l p, μ l = some p → μ' l = some p
theorem Go1.refl (I : Nat → Prop) (μ : Mu) (w : World) : Go1 I I μ μ w w := ⟨fun _ h => h, fun _ _ => rfl, fun _ _ h => h⟩
theorem Go1.trans {I I1 I2 : Nat → Prop} {μ μ1 μ2 : Mu} {w w1 w2 : World} (h : Go1 I I1 μ μ1 w w1) (k : Go1 I1 I2 μ1 μ2 w1 w2) : Go1 I I2 μ μ2 w w2 :=
  ⟨fun b hb => k.imp b (h.imp b hb), fun b hb => (k.blk b (h.imp b hb)).trans (h.blk b hb), fun l p hp => k.nam l p (h.nam l p hp)⟩
theorem Im.go {w w' : World} {I I' : Nat → Prop} {μ μ' : Mu} (g : Go1 I I' μ μ' w w') {d : D} {v : Value} (h : Im w I d v) : Im w' I' d v := h.mono g.imp g.blk
theorem Rp.go {w w' : World} {I I' : Nat → Prop} {μ μ' : Mu} (g : Go1 I I' μ μ' w w') {d : D} {v : Value} (h : Rp w I μ d v) : Rp w' I' μ' d v := by
  induction h with
  | im h => exact .im (h.go g)
  | ptr h hb => exact .ptr (g.nam _ _ h) hb
  | osl h hv => exact .osl (g.nam _ _ h) hv
  | mpr h hb => exact .mpr (g.nam _ _ h) hb
  | agg vs hs h ih => exact .agg vs hs ih
  | tup vs hs h ih => exact .tup vs hs ih
  | fn vs hs h ih => exact .fn vs hs ih

/-- A list of data, a list of values. -/
def RpL (w : World) (I : Nat → Prop) (μ : Mu) (cs : List D) (vs : List Value) : Prop := cs.length = vs.length ∧ ∀ (j : Nat) (d : D) (v : Value), cs[j]? = some d → vs[j]? = some v → Rp w I μ d v
def ImL (w : World) (I : Nat → Prop) (cs : List D) (vs : List Value) : Prop := cs.length = vs.length ∧ ∀ (j : Nat) (d : D) (v : Value), cs[j]? = some d → vs[j]? = some v → Im w I d v
section
variable {w w' : World} {I I' : Nat → Prop} {μ μ' : Mu} {d : D} {v : Value} {cs : List D} {vs : List Value}
theorem RpL.nil : RpL w I μ [] [] := ⟨rfl, fun j d v h => by simp at h⟩
theorem RpL.cons (h : Rp w I μ d v) (h2 : RpL w I μ cs vs) : RpL w I μ (d :: cs) (v :: vs) := by
  refine ⟨by simp [h2.1], fun j a b ha hb => ?_⟩
  cases j with
  | zero => simp at ha hb; subst ha; subst hb; exact h
  | succ j => exact h2.2 j a b (by simpa using ha) (by simpa using hb)
theorem RpL.inv (h : RpL w I μ (d :: cs) vs) : ∃ v r, vs = v :: r ∧ Rp w I μ d v ∧ RpL w I μ cs r := by
  cases vs with
  | nil => exact absurd h.1 (by simp)
  | cons v r => exact ⟨v, r, rfl, h.2 0 d v rfl rfl, by simpa using h.1, fun j a b ha hb => h.2 (j + 1) a b (by simpa using ha) (by simpa using hb)⟩
theorem RpL.inv0 (h : RpL w I μ [] vs) : vs = [] := List.eq_nil_of_length_eq_zero (by simpa using h.1.symm)
theorem ImL.nil : ImL w I [] [] := ⟨rfl, fun j d v h => by simp at h⟩
theorem ImL.cons (h : Im w I d v) (h2 : ImL w I cs vs) : ImL w I (d :: cs) (v :: vs) := by
  refine ⟨by simp [h2.1], fun j a b ha hb => ?_⟩
  cases j with
  | zero => simp at ha hb; subst ha; subst hb; exact h
  | succ j => exact h2.2 j a b (by simpa using ha) (by simpa using hb)
theorem ImL.inv (h : ImL w I (d :: cs) vs) : ∃ v r, vs = v :: r ∧ Im w I d v ∧ ImL w I cs r := by
  cases vs with
  | nil => exact absurd h.1 (by simp)
  | cons v r => exact ⟨v, r, rfl, h.2 0 d v rfl rfl, by simpa using h.1, fun j a b ha hb => h.2 (j + 1) a b (by simpa using ha) (by simpa using hb)⟩
theorem ImL.inv0 (h : ImL w I [] vs) : vs = [] := List.eq_nil_of_length_eq_zero (by simpa using h.1.symm)
theorem ImL.rp (h : ImL w I cs vs) : RpL w I μ cs vs := ⟨h.1, fun j d v a b => .im (h.2 j d v a b)⟩
theorem RpL.go (g : Go1 I I' μ μ' w w') (h : RpL w I μ cs vs) : RpL w' I' μ' cs vs := ⟨h.1, fun j d v a b => (h.2 j d v a b).go g⟩
theorem ImL.go (g : Go1 I I' μ μ' w w') (h : ImL w I cs vs) : ImL w' I' cs vs := ⟨h.1, fun j d v a b => (h.2 j d v a b).go g⟩
theorem RpL.get (h : RpL w I μ cs vs) {j : Nat} (hd : cs[j]? = some d) : ∃ v, vs[j]? = some v ∧ Rp w I μ d v := by
  have hj : j < vs.length := by have := (List.getElem?_eq_some_iff.1 hd).1; rw [h.1] at this; exact this
  exact ⟨vs[j], List.getElem?_eq_getElem hj, h.2 j d _ hd (List.getElem?_eq_getElem hj)⟩
theorem ImL.get (h : ImL w I cs vs) {j : Nat} (hd : cs[j]? = some d) : ∃ v, vs[j]? = some v ∧ Im w I d v := by
  have hj : j < vs.length := by have := (List.getElem?_eq_some_iff.1 hd).1; rw [h.1] at this; exact this
  exact ⟨vs[j], List.getElem?_eq_getElem hj, h.2 j d _ hd (List.getElem?_eq_getElem hj)⟩
theorem RpL.app {cs' : List D} {vs' : List Value} (h : RpL w I μ cs vs) (h2 : RpL w I μ cs' vs') : RpL w I μ (cs ++ cs') (vs ++ vs') := by
  induction cs generalizing vs with
  | nil => obtain rfl := h.inv0; exact h2
  | cons a r ih => obtain ⟨v, q, rfl, h3, h4⟩ := h.inv; exact .cons h3 (ih h4)
theorem RpL.drop (h : RpL w I μ cs vs) (n : Nat) : RpL w I μ (cs.drop n) (vs.drop n) :=
  ⟨by simp [h.1], fun j d v a b => h.2 (n + j) d v (by rw [← List.getElem?_drop]; exact a) (by rw [← List.getElem?_drop]; exact b)⟩
theorem RpL.take (h : RpL w I μ cs vs) (n : Nat) : RpL w I μ (cs.take n) (vs.take n) := by
  refine ⟨by simp [h.1], fun j d v a b => ?_⟩
  rw [List.getElem?_take] at a b
  split at a
  · rename_i hj; rw [if_pos hj] at b; exact h.2 j d v a b
  · cases a
/-- A leaf is one cell. -/
theorem Im.one (h : Im w I d v) (hl : d.leaf = true) : v.oneCell' = true := by cases h <;> first | rfl | cases hl
theorem Rp.im_of (h : Rp w I μ d v) (hi : d.im = true) : Im w I d v := by
  cases h with
  | im h => exact h
  | fn vs hs h =>
    rename_i f cs
    have : cs = [] := by simpa [D.im] using hi
    subst this
    exact .fn vs hs (fun j d v hd => by simp at hd)
  | _ => cases hi
theorem Rp.imF_of (h : Rp w I μ d v) (hi : d.imF = true) : Im w I d v := by
  by_cases hc : ∃ f cs, d = .fn f cs
  · obtain ⟨f, cs, rfl⟩ := hc
    have hi : cs.all D.im = true := hi
    cases h with
    | im h => exact h
    | fn vs hs h => exact .fn vs hs (fun j d v a b => (h j d v a b).im_of (List.all_eq_true.1 hi d (List.mem_of_getElem? a)))
  · refine h.im_of ?_
    cases d <;> first | exact hi | exact absurd ⟨_, _, rfl⟩ hc
theorem RpL.imF_of (h : RpL w I μ cs vs) (hi : cs.all D.imF = true) : ImL w I cs vs := ⟨h.1, fun j d v a b => (h.2 j d v a b).imF_of (List.all_eq_true.1 hi d (List.mem_of_getElem? a))⟩
theorem RpL.im_of (h : RpL w I μ cs vs) (hi : cs.all D.im = true) : ImL w I cs vs := ⟨h.1, fun j d v a b => (h.2 j d v a b).im_of (List.all_eq_true.1 hi d (List.mem_of_getElem? a))⟩
end
end Go.Proofs.Ytpdamhhaepcffaa.AE
/-
  AE, part 3: the blocks of the call's own, and what each kind of step leaves of them.
-/
set_option linter.unusedVariables false
namespace Go.Proofs.Ytpdamhhaepcffaa.AE
open Go Go.RowKit

theorem flat_length {α : Type} {sz : Nat} : ∀ {xs : List (List α)}, (∀ x ∈ xs, x.length = sz) → xs.flatten.length = xs.length * sz
  | [], _ => by simp
  | x :: r, h => by
    rw [List.flatten_cons, List.length_append, h x (by simp), flat_length (fun y hy => h y (by simp [hy])), List.length_cons, Nat.succ_mul, Nat.add_comm]
theorem flat_get {α : Type} {sz : Nat} : ∀ {xs : List (List α)} {i j : Nat} {x : List α}, (∀ x ∈ xs, x.length = sz) → xs[i]? = some x → j < sz → xs.flatten[i * sz + j]? = x[j]?
  | [], i, j, x, _, h, _ => by simp at h
  | y :: r, 0, j, x, hl, h, hj => by
    have : y = x := by simpa using h
    subst this
    rw [List.flatten_cons, Nat.zero_mul, Nat.zero_add, List.getElem?_append_left (by rw [hl y (by simp)]; exact hj)]
  | y :: r, i + 1, j, x, hl, h, hj => by
    have hy := hl y (by simp)
    rw [List.flatten_cons, Nat.succ_mul, List.getElem?_append_right (by omega), show i * sz + sz + j - y.length = i * sz + j by omega]
    exact flat_get (fun x hx => hl x (by simp [hx])) (by simpa using h) hj
theorem spl_left {α : Type} (x r ds : List α) (o : Nat) (h : o + ds.length ≤ x.length) : (x.take o ++ ds ++ x.drop (o + ds.length)) ++ r = (x ++ r).take o ++ ds ++ (x ++ r).drop (o + ds.length) := by
  rw [List.take_append_of_le_length (by omega), List.drop_append_of_le_length h]
  simp
theorem spl_right {α : Type} (x r ds : List α) (o : Nat) : x ++ (r.take o ++ ds ++ r.drop (o + ds.length)) = (x ++ r).take (x.length + o) ++ ds ++ (x ++ r).drop (x.length + o + ds.length) := by
  rw [List.take_append, List.drop_append]
  rw [List.take_of_length_le (show x.length ≤ x.length + o by omega), List.drop_eq_nil_of_le (show x.length ≤ x.length + o + ds.length by omega), show x.length + o - x.length = o by omega, show x.length + o + ds.length - x.length = o + ds.length by omega]
  simp
theorem flat_set {sz : Nat} : ∀ {xs : List (List D)} {i o : Nat} {x ds : List D}, (∀ x ∈ xs, x.length = sz) → xs[i]? = some x → o + ds.length ≤ x.length → (xs.set i (spl x o ds)).flatten = spl xs.flatten (i * sz + o) ds
  | [], i, o, x, ds, _, h, _ => by simp at h
  | y :: r, 0, o, x, ds, hl, h, hj => by
    have : y = x := by simpa using h
    subst this
    unfold spl
    rw [List.set_cons_zero, List.flatten_cons, List.flatten_cons, Nat.zero_mul, Nat.zero_add, spl_left y r.flatten ds o hj]
  | y :: r, i + 1, o, x, ds, hl, h, hj => by
    have hy := hl y (by simp)
    have ih := flat_set (fun x hx => hl x (by simp [hx])) (show r[i]? = some x by simpa using h) hj
    rw [List.set_cons_succ, List.flatten_cons, ih, List.flatten_cons]
    unfold spl
    rw [spl_right, hy]
    congr 2
    · rw [Nat.succ_mul, show sz + (i * sz + o) = i * sz + sz + o by omega]
    · rw [Nat.succ_mul, show sz + (i * sz + o) + ds.length = i * sz + sz + o + ds.length by omega]
theorem spl_length {α : Type} {cs ds : List α} {o : Nat} (h : o + ds.length ≤ cs.length) : (spl cs o ds).length = cs.length := by unfold spl; simp; omega

def Ob.isOwn : Ob → Bool
  | .no => false
  | .var _ o => o
  | .row _ _ _ o => o
  | .mp _ => true
def MpOk (w : World) (I : Nat → Prop) (es : List (ByteArray × D)) (ens : List MapEntry) : Prop :=
  es.length = ens.length ∧ ∀ (j : Nat) (k : ByteArray) (d : D) (en : MapEntry), es[j]? = some (k, d) → ens[j]? = some en → en.key = .string k ∧ Im w I d en.val
/-- What a block of the call's own is. -/
def ObOk (B : Nat) (I : Nat → Prop) (μ : Mu) (w : World) (l : Nat) : Ob → Prop
  | .no => True
  | .var cs own => ∃ p b vs ty, μ l = some p ∧ p.b = some b ∧ B ≤ b ∧ w.heap[b]? = some (.cells (vs : List Value).toArray ty (0, 0)) ∧ (∀ d ∈ cs, D.leaf d = true) ∧ RpL w I μ cs vs ∧ (own = true → ¬ I b) ∧ (own = false → I b ∧ ImL w I cs vs)
  | .row e sz xs own => ∃ p cells, μ l = some p ∧ p.sz = sz ∧ 0 < sz ∧ p.b = p.val.ownBlock ∧ w.ownsRow B e sz p.val xs.length cells ∧ (∀ x ∈ xs, x.length = sz) ∧ (∀ x ∈ xs, ∀ d ∈ x, D.leaf d = true) ∧ ImL w I xs.flatten cells ∧ (own = true → ∀ b, p.b = some b → ¬ I b) ∧ (own = false → ∀ b, p.b = some b → I b)
  | .mp es => ∃ p b ens clk, μ l = some p ∧ p.b = some b ∧ B ≤ b ∧ w.heap[b]? = some (.map (ens : List MapEntry).toArray clk) ∧ MpOk w I es ens ∧ ¬ I b

/-- All of them. -/
structure Inv (B : Nat) (w0 : World) (I : Nat → Prop) (μ : Mu) (h : Hp) (w : World) : Prop where
  below : Below B w0 w
  hB : B ≤ w.heap.size
  lt : ∀ b, I b → b < w.heap.size
  ob : ∀ l, ObOk B I μ w l (h l)
  dis : ∀ l l' p p' b, l ≠ l' → (h l).isOwn = true → (h l').isOwn = true → μ l = some p → μ l' = some p' → p.b = some b → p'.b ≠ some b

/-- No block, or a block that is as it was: the thing lasts. -/
theorem ObOk.go {B : Nat} {I I' : Nat → Prop} {μ μ' : Mu} {w w' : World} {l : Nat} {o : Ob} (g : Go1 I I' μ μ' w w')
    (hk : ∀ p b, μ l = some p → p.b = some b → o.isOwn = true → w'.heap[b]? = w.heap[b]? ∧ ¬ I' b) (h : ObOk B I μ w l o) : ObOk B I' μ' w' l o := by
  cases o with
  | no => trivial
  | var cs own =>
    obtain ⟨p, b, vs, ty, h1, h2, h3, h4, h5, h6, h7, h8⟩ := h
    refine ⟨p, b, vs, ty, g.nam _ _ h1, h2, h3, ?_, h5, h6.go g, fun ho => ?_, fun ho => ⟨g.imp _ (h8 ho).1, (h8 ho).2.go g⟩⟩
    · cases own with
      | true => rw [(hk p b h1 h2 rfl).1]; exact h4
      | false => rw [g.blk _ (h8 rfl).1]; exact h4
    · exact (hk p b h1 h2 ho).2
  | row e sz xs own =>
    obtain ⟨p, cells, h1, h2, h3, h4, h5, h6, h7, h8, h9, h10⟩ := h
    refine ⟨p, cells, g.nam _ _ h1, h2, h3, h4, ?_, h6, h7, h8.go g, fun ho b hb => (hk p b h1 hb ho).2, fun ho b hb => g.imp _ (h10 ho b hb)⟩
    refine ⟨h5.1, ?_⟩
    rcases h5.2 with hn | ⟨gb, cap, cur, hv, hb, hg, rest⟩
    · exact .inl hn
    · refine .inr ⟨gb, cap, cur, hv, hb, ?_, rest⟩
      have hpb : p.b = some gb := by rw [h4, hv]; rfl
      cases own with
      | true => rw [(hk p gb h1 hpb rfl).1]; exact hg
      | false => rw [g.blk _ (h10 rfl gb hpb)]; exact hg
  | mp es =>
    obtain ⟨p, b, ens, clk, h1, h2, h3, h4, h5, h6⟩ := h
    refine ⟨p, b, ens, clk, g.nam _ _ h1, h2, h3, ?_, ⟨h5.1, fun j k d en a c => ⟨(h5.2 j k d en a c).1, (h5.2 j k d en a c).2.go g⟩⟩, (hk p b h1 h2 rfl).2⟩
    rw [(hk p b h1 h2 rfl).1]; exact h4

/-- A block that is owned is there. -/
theorem ObOk.lt {B : Nat} {I : Nat → Prop} {μ : Mu} {w : World} {l : Nat} {o : Ob} (h : ObOk B I μ w l o) {p : Pl} {b : Nat} (hp : μ l = some p) (hb : p.b = some b) (ho : o.isOwn = true) : b < w.heap.size ∧ ¬ I b ∧ B ≤ b := by
  cases o with
  | no => cases ho
  | var cs own =>
    obtain ⟨p', b', vs, ty, h1, h2, h3, h4, h5, h6, h7, h8⟩ := h
    rw [hp] at h1; obtain rfl := Option.some.inj h1; rw [hb] at h2; obtain rfl := Option.some.inj h2
    exact ⟨(Array.getElem?_eq_some_iff.1 h4).1, h7 ho, h3⟩
  | row e sz xs own =>
    obtain ⟨p', cells, h1, h2, h3, h4, h5, h6, h7, h8, h9, h10⟩ := h
    rw [hp] at h1; obtain rfl := Option.some.inj h1
    have := h5.lt b (by rw [← h4]; exact hb)
    exact ⟨this.2, h9 ho b hb, this.1⟩
  | mp es =>
    obtain ⟨p', b', ens, clk, h1, h2, h3, h4, h5, h6⟩ := h
    rw [hp] at h1; obtain rfl := Option.some.inj h1; rw [hb] at h2; obtain rfl := Option.some.inj h2
    exact ⟨(Array.getElem?_eq_some_iff.1 h4).1, h6, h3⟩

section
variable {B : Nat} {w0 w w' : World} {I I' : Nat → Prop} {μ μ' : Mu} {h : Hp}
/-- The world goes on, and no block of the own changes; the heap stays. -/
theorem Inv.go (hi : Inv B w0 I μ h w) (g : Go1 I I' μ μ' w w') (hb : Below B w w') (hl : ∀ b, I' b → b < w'.heap.size) (hnew : ∀ b, I' b → b < w.heap.size → I b)
    (hk : ∀ b, b < w.heap.size → w'.heap[b]? = w.heap[b]?) : Inv B w0 I' μ' h w' := by
  refine ⟨hi.below.trans hb, Nat.le_trans hi.hB hb.size, hl, fun l => (hi.ob l).go g fun p b hp hb ho => ?_, fun l l' p p' b hne ho ho' hp hp' hb => ?_⟩
  · obtain ⟨h1, h2, _⟩ := (hi.ob l).lt hp hb ho
    exact ⟨hk b h1, fun hI => h2 (hnew b hI h1)⟩
  · have q : ∀ l p, (h l).isOwn = true → μ' l = some p → μ l = some p := by
      intro l p ho hp
      have : ∃ q, μ l = some q := by
        have := hi.ob l
        revert this ho
        cases h l with
        | no => intro ho; cases ho
        | var cs own => rintro _ ⟨p, _, _, _, h1, _⟩; exact ⟨p, h1⟩
        | row e sz xs own => rintro _ ⟨p, _, h1, _⟩; exact ⟨p, h1⟩
        | mp es => rintro _ ⟨p, _, _, _, h1, _⟩; exact ⟨p, h1⟩
      obtain ⟨q, hq⟩ := this
      have := g.nam l q hq
      rw [hp] at this
      rw [hq, this]
    exact hi.dis l l' p p' b hne ho ho' (q l p ho hp) (q l' p' ho' hp') hb
/-- Draws turn no block. -/
theorem Inv.same (hi : Inv B w0 I μ h w) (hh : w'.heap = w.heap) (ho : w'.os = w.os) (ht : w'.tape = w.tape) (hu : w'.output = w.output) : Inv B w0 I μ h w' ∧ Go1 I I μ μ w w' := by
  have g : Go1 I I μ μ w w' := ⟨fun _ h => h, fun b _ => by rw [hh], fun _ _ h => h⟩
  exact ⟨hi.go g ⟨ho, ht, hu, by rw [hh]; exact Nat.le_refl _, fun b _ => by rw [hh]⟩ (fun b hb => by rw [hh]; exact hi.lt b hb) (fun b hb _ => hb) (fun b _ => by rw [hh]), g⟩

/-- One name is given (anew): block l becomes o. What else is owned, and what nobody writes, is as it was. -/
theorem Inv.put (hi : Inv B w0 I μ h w) (g : Go1 I I' μ μ' w w') (hb : Below B w w') (hl : ∀ b, I' b → b < w'.heap.size) {l : Nat} {o : Ob} (h' : Hp)
    (hh : ∀ j, j ≠ l → h' j = h j ∨ h' j = .no) (hho : h' l = o) (hol : ObOk B I' μ' w' l o)
    (hk : ∀ j p b, j ≠ l → h' j = h j → (h j).isOwn = true → μ j = some p → p.b = some b → w'.heap[b]? = w.heap[b]? ∧ ¬ I' b ∧ (o.isOwn = true → ∀ p', μ' l = some p' → p'.b ≠ some b)) : Inv B w0 I' μ' h' w' := by
  have q : ∀ l p, (h l).isOwn = true → μ' l = some p → μ l = some p := by
    intro l p ho hp
    have : ∃ q, μ l = some q := by
      have := hi.ob l
      revert this ho
      cases h l with
      | no => intro ho; cases ho
      | var cs own => rintro _ ⟨p, _, _, _, h1, _⟩; exact ⟨p, h1⟩
      | row e sz xs own => rintro _ ⟨p, _, h1, _⟩; exact ⟨p, h1⟩
      | mp es => rintro _ ⟨p, _, _, _, h1, _⟩; exact ⟨p, h1⟩
    obtain ⟨q, hq⟩ := this
    have := g.nam l q hq
    rw [hp] at this
    rw [hq, this]
  refine ⟨hi.below.trans hb, Nat.le_trans hi.hB hb.size, hl, fun j => ?_, fun j j' p p' b hne ho ho' hp hp' hpb => ?_⟩
  · by_cases hj : j = l
    · subst hj; rw [hho]; exact hol
    · rcases hh j hj with hj2 | hj2
      · rw [hj2]
        exact (hi.ob j).go g fun p b hp hb2 ho => ⟨(hk j p b hj hj2 ho hp hb2).1, (hk j p b hj hj2 ho hp hb2).2.1⟩
      · rw [hj2]; trivial
  · have old : ∀ j, j ≠ l → (h' j).isOwn = true → h' j = h j ∧ (h j).isOwn = true := by
      intro j hj ho
      rcases hh j hj with hj2 | hj2
      · exact ⟨hj2, by rw [← hj2]; exact ho⟩
      · rw [hj2] at ho; cases ho
    by_cases hj : j = l
    · subst hj
      have hj' : j' ≠ j := fun e => hne e.symm
      obtain ⟨h1, h2⟩ := old j' hj' ho'
      intro hpb'
      exact (hk j' p' b hj' h1 h2 (q j' p' h2 hp') hpb').2.2 (by rw [← hho]; exact ho) p hp hpb
    · obtain ⟨h1, h2⟩ := old j hj ho
      by_cases hj' : j' = l
      · subst hj'
        exact (hk j p b hj h1 h2 (q j p h2 hp) hpb).2.2 (by rw [← hho]; exact ho') p' hp'
      · obtain ⟨h1', h2'⟩ := old j' hj' ho'
        exact hi.dis j j' p p' b hne h2 h2' (q j p h2 hp) (q j' p' h2' hp') hpb
end
end Go.Proofs.Ytpdamhhaepcffaa.AE
/-
  AE, part 4: the program's operations as AE's, and that each plain one does what AE says.
-/
set_option linter.unusedVariables false
set_option linter.unusedSimpArgs false
namespace Go.Proofs.Ytpdamhhaepcffaa.AE
open Go Go.RowKit

/-! ### operations and code of the program, as AE's -/
def cLeaf : Value → Option D
  | .bool b => some (.bool b)
  | .int k n => some (.int k n)
  | .string s => some (.str s)
  | .slice none 0 0 => some .nls
  | .nilFunc => some .nlf
  | .map none => some .nlf
  | _ => none
def cCells : List Value → Option (List D)
  | [] => some []
  | v :: r => (cLeaf v).bind fun d => (cCells r).bind fun q => some (d :: q)
def cV : Value → Option D
  | .agg cs => (cCells cs.toList).bind fun l => some (.agg l)
  | v => cLeaf v
def cX : Operand → Option X
  | .tmp k => some (.t k)
  | .const v => (cV v).bind fun d => some (.c d)
  | .func f => some (.c (.fn f []))
  | _ => none
def cXs : List Operand → Option (List X)
  | [] => some []
  | x :: r => (cX x).bind fun y => (cXs r).bind fun q => some (y :: q)
def zCells (P : Program) (t : TypeId) : Option (List D) := (P.info? t).bind fun i => i.zero.bind fun z => (cCells z.cells.toList).bind fun l => if l.length = i.size then some l else none
def szT (P : Program) (t : TypeId) : Option Nat := (P.info? t).map (·.size)
def agT (P : Program) (t : TypeId) : Option Bool := (P.underlying t).map TypeDesc.isRow
def cPs (f : Nat → Option (Nat × Nat)) : List (Nat × Operand) → Option (List (Nat × Nat × X))
  | [] => some []
  | (i, x) :: r => (f i).bind fun p => (cX x).bind fun y => (cPs f r).bind fun q => some ((p.1, p.2, y) :: q)
def cQs : List (Nat × Operand) → Option (List (Nat × X))
  | [] => some []
  | (i, x) :: r => (cX x).bind fun y => (cQs r).bind fun q => some ((i, y) :: q)
def cO (x : Option Operand) : Option (Option X) := match x with
  | none => some none
  | some x => (cX x).bind fun y => some (some y)
/-- The kinds of a flat struct's fields, from offset o on. -/
def eqKs (P : Program) : Nat → List Field → Option (List Nat)
  | _, [] => some []
  | o, f :: r => if f.offset = o ∧ f.name ≠ "_" ∧ szT P f.type = some 1 then (match P.underlying f.type with
      | some (.int _) => some 0
      | some .bool => some 1
      | some .string => some 2
      | _ => none).bind fun k => (eqKs P (o + 1) r).bind fun q => some (k :: q)
    else none
def cOp0 (P : Program) : Go.Op → Option XOp
  | .move x | .assign x => (cX x).bind fun y => some (.mv y)
  | .pick c a b => (cX c).bind fun c => (cX a).bind fun a => (cX b).bind fun b => some (.pick c a b)
  | .alloc t => (zCells P t).bind fun z => some (.alloc z)
  | .box t x => (szT P t).bind fun n => (cX x).bind fun y => some (.box n y)
  | .load t x => (szT P t).bind fun n => (agT P t).bind fun ag => (cX x).bind fun y => some (.load n ag y)
  | .store t x y => (szT P t).bind fun n => (cX x).bind fun x => (cX y).bind fun y => some (.store n x y)
  | .binOp op t x y _ => (cX x).bind fun x => (cX y).bind fun y => match P.underlying t with
    | some .bool => some (.bin true op x y)
    | some (.struct fs) => (eqKs P 0 fs.toList).bind fun ks => if P.stoodInHeld t = false ∧ P.eqGuardType P.depth t = false then match op with
        | .eql => some (.eqs false ks x y)
        | .neq => some (.eqs true ks x y)
        | _ => none
      else none
    | some _ => some (.bin false op x y)
    | none => none
  | .unOp op _ x => (cX x).bind fun x => some (.un op x)
  | .extract x k => (cX x).bind fun x => some (.ext x k)
  | .field t x f => match P.underlying t with
    | some (.struct fs) => (fs[f]?).bind fun fd => (szT P fd.type).bind fun n => (agT P fd.type).bind fun ag => (cX x).bind fun x => some (.fld n ag fd.offset x)
    | _ => none
  | .fieldAddr t x f => match P.underlying t with
    | some (.struct fs) => (fs[f]?).bind fun fd => (szT P fd.type).bind fun n => if n = 0 then none else (cX x).bind fun x => some (.fad fd.offset x)
    | _ => none
  | .indexAddr t x i => match P.underlying t with
    | some (.array n e) => (szT P e).bind fun sz => (cX x).bind fun x => (cX i).bind fun i => some (.iaA n sz x i)
    | some (.slice e) => (szT P e).bind fun sz => (cX x).bind fun x => (cX i).bind fun i => some (.iaS sz x i)
    | _ => none
  | .index t x i => match P.underlying t with
    | some .string => (cX x).bind fun x => (cX i).bind fun i => some (.ixS x i)
    | _ => none
  | .call c => match c.callee with
    | .value (.func f) => (cXs c.args.toList).bind fun xs => some (.call f xs)
    | .value (.tmp k) => (cXs c.args.toList).bind fun xs => some (.callv (.t k) xs)
    | .builtin .len => match c.args.toList, c.argTypes.toList with
      | [x], [t] => match P.underlying t with
        | some .string => (cX x).bind fun x => some (.len true x)
        | some (.slice _) => (cX x).bind fun x => some (.len false x)
        | _ => none
      | _, _ => none
    | .builtin .append => match c.args.toList, c.argTypes.toList with
      | [x, y], [t, u] => if t = u then match P.underlying t with
          | some (.slice e) => (P.info? e).bind fun i => (zCells P e).bind fun z => if i.size ≠ 0 ∧ i.bytes ≤ 2048 then (cX x).bind fun x => (cX y).bind fun y => some (.app e i.size i.bytes x y) else none
          | _ => none
        else none
      | _, _ => none
    | .builtin .max => match c.args.toList with
      | [x, y] => (cX x).bind fun x => (cX y).bind fun y => some (.mm true x y)
      | _ => none
    | .builtin .min => match c.args.toList with
      | [x, y] => (cX x).bind fun x => (cX y).bind fun y => some (.mm false x y)
      | _ => none
    | _ => none
  | .convert s t x => match P.underlying s, P.underlying t with
    | some (.int _), some (.int k) => (cX x).bind fun x => some (.cvi k x)
    | _, _ => none
  | .makeFunc (.func f) first caps => if first.isEmpty then (cXs caps.toList).bind fun xs => some (.mkfn f xs) else none
  | .slice t x lo hi none => match P.underlying t with
    | some .string => (cX x).bind fun x => (cO lo).bind fun lo => (cO hi).bind fun hi => some (.slS x lo hi)
    | _ => none
  | .makeSlice t x y => match P.underlying t with
    | some (.slice e) => (P.info? e).bind fun i => (zCells P e).bind fun z => if i.size ≠ 0 ∧ i.bytes ≤ 2048 ∧ z.all D.leaf ∧ z.all D.im then (cX x).bind fun x => (cX y).bind fun y => some (.mks e i.size i.bytes z x y) else none
    | _ => none
  | .makeMap t none => some .mkmap
  | .lookup t x i false => match P.underlying t with
    | some (.map kt et) => match P.underlying kt with
      | some .string => (P.info? et).bind fun ti => ti.zero.bind fun zv => (cLeaf zv).bind fun z => (cX x).bind fun x => (cX i).bind fun i => some (.mget z x i)
      | _ => none
    | _ => none
  | .mapUpdate t x i y | .insert t x i y => match P.underlying t with
    | some (.map kt et) => match P.underlying kt with
      | some .string => (cX x).bind fun x => (cX i).bind fun i => (cX y).bind fun y => some (.mput x i y)
      | _ => none
    | _ => none
  | .nilCheck x => (cX x).bind fun x => some (.nilc x)
  | .build t ps => match P.underlying t with
    | some (.struct fs) => (zCells P t).bind fun z => (fs.toList.mapM (fun f => (P.info? f.type).map fun i => (f.offset, i.size))).bind fun pl => (cPs (fun i => pl[i]?) ps.toList).bind fun qs => some (.build z qs)
    | _ => none
  | .buildSlice t n ps => match P.underlying t with
    | some (.slice e) => (zCells P e).bind fun z => if n * z.length ≤ 16777216 ∧ z.length ≠ 0 then (cQs ps.toList).bind fun qs => some (.bsl e z.length z n qs) else none
    | _ => none
  | _ => none

def grd (x : Option XOp) : Option XOp := x.bind fun xo => if isCall xo then none else some xo
def cOpA (P : Program) (op : Go.Op) : Option XOp := match op with
  | .call c => match c.callee with
    | .value _ => cOp0 P (.call c)
    | _ => grd (cOp0 P (.call c))
  | op => grd (cOp0 P op)
theorem grd_some {x : Option XOp} {xo : XOp} (h : grd x = some xo) : x = some xo ∧ isCall xo = false := by
  unfold grd at h
  simp only [Option.bind_eq_some_iff] at h
  obtain ⟨y, hy, h⟩ := h
  split at h
  · cases h
  · rename_i hc
    obtain rfl := Option.some.inj h
    exact ⟨hy, by simpa using hc⟩
theorem cOpA_some {P : Program} {op : Go.Op} {xo : XOp} (h : cOpA P op = some xo) : cOp0 P op = some xo ∧ (isCall xo = true → ∃ c x, op = .call c ∧ c.callee = .value x) := by
  cases op with
  | call c =>
    simp only [cOpA] at h
    split at h
    · rename_i x hx
      exact ⟨h, fun _ => ⟨c, x, rfl, hx⟩⟩
    · obtain ⟨h1, h2⟩ := grd_some h
      exact ⟨h1, fun hc => by rw [h2] at hc; cases hc⟩
  | _ =>
    obtain ⟨h1, h2⟩ := grd_some h
    exact ⟨h1, fun hc => by rw [h2] at hc; cases hc⟩
/-- In a region whose order is drawn a slice literal is frozen at once; in one whose order is not, a struct literal. -/
def fzOp (dr : Bool) : XOp → XOp
  | .bsl t sz z n ps => if dr then .bsf t sz z n ps else .bsl t sz z n ps
  | .build z ps => if dr then .build z ps else .bdf z ps
  | x => x
def cOp (P : Program) (dr : Bool) (op : Go.Op) : Option XOp := (cOpA P op).map (fzOp dr)
theorem fz_call {dr : Bool} {x : XOp} (h : isCall (fzOp dr x) = true) : fzOp dr x = x := by
  cases x <;> first | rfl | (cases dr <;> cases h)
theorem cOp_inv {P : Program} {dr : Bool} {op : Go.Op} {xo : XOp} (h : cOp P dr op = some xo) : ∃ x, cOpA P op = some x ∧ xo = fzOp dr x := by
  unfold cOp at h
  rw [Option.map_eq_some_iff] at h
  obtain ⟨x, hx, rfl⟩ := h
  exact ⟨x, hx, rfl⟩
theorem cOp_call {P : Program} {dr : Bool} {op : Go.Op} {xo : XOp} (h : cOp P dr op = some xo) (hc : isCall xo = true) : cOpA P op = some xo := by
  obtain ⟨x, hx, rfl⟩ := cOp_inv h
  rw [fz_call hc]
  exact hx
section
variable {P : Program} {B : Nat} {w0 w : World} {I : Nat → Prop} {μ : Mu} {h h' : Hp} {e : Env} {ρ : Operand → Value} {d : D} {k : Nat}

theorem cLeaf_im {v : Value} (hv : cLeaf v = some d) : Im w I d v ∧ d.leaf = true ∧ d.im = true := by
  unfold cLeaf at hv
  split at hv <;> first | (cases hv; done) | (obtain rfl := Option.some.inj hv; first | exact ⟨.nlm, rfl, rfl⟩ | exact ⟨.bool _, rfl, rfl⟩ | exact ⟨.int _ _, rfl, rfl⟩ | exact ⟨.str _, rfl, rfl⟩ | exact ⟨.nls, rfl, rfl⟩ | exact ⟨.nlf, rfl, rfl⟩)
theorem cCells_im : ∀ {vs : List Value} {ds : List D}, cCells vs = some ds → ImL w I ds vs ∧ (∀ d ∈ ds, D.leaf d = true) ∧ (∀ d ∈ ds, D.im d = true)
  | [], ds, hv => by
    obtain rfl := Option.some.inj hv
    exact ⟨.nil, by simp, by simp⟩
  | v :: r, ds, hv => by
    simp only [cCells, Option.bind_eq_some_iff] at hv
    obtain ⟨d, hd, q, hq, he⟩ := hv
    obtain rfl := Option.some.inj he
    obtain ⟨h1, h2, h3⟩ := cLeaf_im (w := w) (I := I) hd
    obtain ⟨h4, h5, h6⟩ := cCells_im hq
    exact ⟨.cons h1 h4, by simpa using ⟨h2, h5⟩, by simpa using ⟨h3, h6⟩⟩
theorem cV_im {v : Value} (hv : cV v = some d) : Im w I d v := by
  unfold cV at hv
  split at hv
  · simp only [Option.bind_eq_some_iff] at hv
    obtain ⟨l, hl, he⟩ := hv
    obtain rfl := Option.some.inj he
    rename_i cs
    obtain ⟨h1, _, _⟩ := cCells_im (w := w) (I := I) hl
    have := Im.agg (w := w) (I := I) cs.toList h1.1 h1.2
    simpa using this
  · exact (cLeaf_im hv).1

/-- The temporaries are what the environment says. -/
def EnvOk (w : World) (I : Nat → Prop) (μ : Mu) (e : Env) (ts : Array Value) : Prop := ∀ k, Rp w I μ (e k) (ts.getD k undef)
/-- The operands are. -/
def OpsOk (w : World) (I : Nat → Prop) (μ : Mu) (e : Env) (ρ : Operand → Value) : Prop := ∀ x y, cX x = some y → Rp w I μ (y.ev e) (ρ x)
theorem EnvOk.ops {a : Act} (he : EnvOk w I μ e a.tmps) : OpsOk w I μ e a.eval := by
  intro x y hx
  cases x with
  | tmp t => obtain rfl := Option.some.inj hx; exact he t
  | const v =>
    simp only [cX, Option.bind_eq_some_iff] at hx
    obtain ⟨d, hd, hy⟩ := hx
    obtain rfl := Option.some.inj hy
    exact .im (cV_im hd)
  | func f =>
    obtain rfl := Option.some.inj hx
    exact .im (.fn [] rfl (fun j d v hj => by simp at hj))
  | global g => cases hx
theorem OpsOk.list (he : OpsOk w I μ e ρ) : ∀ {xs : List Operand} {ys : List X}, cXs xs = some ys → RpL w I μ (ys.map (X.ev e)) (xs.map ρ)
  | [], ys, hx => by
    obtain rfl := Option.some.inj hx
    exact .nil
  | x :: r, ys, hx => by
    simp only [cXs, Option.bind_eq_some_iff] at hx
    obtain ⟨y, hy, q, hq, he2⟩ := hx
    obtain rfl := Option.some.inj he2
    exact .cons (he x y hy) (OpsOk.list he hq)

/-- What one operation comes to. -/
def Res (P : Program) (B : Nat) (w0 : World) (I : Nat → Prop) (μ : Mu) (w : World) (k : Nat) (s : Sem Next) (d : D) (h' : Hp) : Prop :=
  ∃ nx v w' I' μ', s.run P w = .ok nx w' ∧ (nx = .value v ∨ (nx = .skip ∧ v = undef)) ∧ Rp w' I' μ' d v ∧ Inv B w0 I' μ' h' w' ∧ Go1 I I' μ μ' w w' ∧ (∀ l, μ l = none → l ≠ k → μ' l = none) ∧ (∀ b, I' b → I b ∨ B ≤ b)
theorem Res.pure {s : Sem Next} {v : Value} (hi : Inv B w0 I μ h w) (hr : s.run P w = .ok (.value v) w) (hd : Rp w I μ d v) : Res P B w0 I μ w k s d h :=
  ⟨_, v, w, I, μ, hr, .inl rfl, hd, hi, .refl _ _ _, fun _ h _ => h, fun _ h => .inl h⟩

theorem Rp.asB {v : Value} (hv : Rp w I μ d v) {b : Bool} (hb : AE.asB d = some b) : v = .bool b ∧ d = .bool b := by
  cases d <;> simp [AE.asB] at hb
  subst hb
  cases hv with
  | im h => cases h; exact ⟨rfl, rfl⟩
theorem Rp.asI {v : Value} (hv : Rp w I μ d v) {n : Int} (hb : AE.asI d = some n) : ∃ k, v = .int k n ∧ d = .int k n := by
  cases d <;> simp [AE.asI] at hb
  subst hb
  cases hv with
  | im h => cases h; exact ⟨_, rfl, rfl⟩
theorem Rp.cells {v : Value} {cs : List D} (hv : Rp w I μ d v) (hc : d.cells = some cs) : RpL w I μ cs v.cells.toList ∧ (∀ d ∈ cs, D.leaf d = true) := by
  unfold D.cells at hc
  split at hc
  · rename_i cs'
    split at hc
    · rename_i hl
      obtain rfl := Option.some.inj hc
      refine ⟨?_, List.all_eq_true.1 hl⟩
      cases hv with
      | im h => cases h with | agg vs hs h => exact ⟨by simpa [Value.cells] using hs, fun j d v a b => .im (h j d v a (by simpa [Value.cells] using b))⟩
      | agg vs hs h => exact ⟨by simpa [Value.cells] using hs, fun j d v a b => h j d v a (by simpa [Value.cells] using b)⟩
    · cases hc
  · split at hc
    · rename_i hl
      obtain rfl := Option.some.inj hc
      refine ⟨?_, by simpa using hl⟩
      have : v.cells = #[v] := by
        cases hv with
        | im h => cases h <;> first | rfl | cases hl
        | _ => first | rfl | cases hl
      rw [this]
      exact .cons hv .nil
    · cases hc
end
end Go.Proofs.Ytpdamhhaepcffaa.AE
/-
  AE, part 5: new blocks, loads, stores, frozen blocks.
-/
set_option linter.unusedVariables false
set_option linter.unusedSimpArgs false
namespace Go.Proofs.Ytpdamhhaepcffaa.AE
open Go Go.RowKit

def mput (μ : Mu) (k : Nat) (p : Pl) : Mu := fun l => if l = k then some p else μ l
theorem mput_same (μ : Mu) (k : Nat) (p : Pl) : mput μ k p k = some p := by simp [mput]
theorem mput_ne (μ : Mu) {k l : Nat} (p : Pl) (h : l ≠ k) : mput μ k p l = μ l := by simp [mput, h]
section
variable {P : Program} {B : Nat} {w0 w w' : World} {I I' : Nat → Prop} {μ μ' : Mu} {h h' : Hp} {e : Env} {ρ : Operand → Value} {d : D} {v : Value} {k : Nat}

theorem mput_go (hk : μ k = none) (p : Pl) : ∀ l q, μ l = some q → mput μ k p l = some q := by
  intro l q hl
  by_cases he : l = k
  · subst he; rw [hk] at hl; cases hl
  · rw [mput_ne _ _ he]; exact hl
theorem heap_alloc (w : World) (o : Obj) (b : Nat) (hb : b < w.heap.size) : (w.alloc o).heap[b]? = w.heap[b]? := Below.heap_alloc w o b hb
/-- A new block. -/
theorem Inv.new (hi : Inv B w0 I μ h w) (hk : μ k = none) (p : Pl) (o : Ob) (ob : Obj) (hp : ∀ b, p.b = some b → b = w.heap.size) (hol : ObOk B I (mput μ k p) (w.alloc ob) k o) :
    Inv B w0 I (mput μ k p) (hput h k o) (w.alloc ob) ∧ Go1 I I μ (mput μ k p) w (w.alloc ob) ∧ (∀ l, μ l = none → l ≠ k → mput μ k p l = none) := by
  have g : Go1 I I μ (mput μ k p) w (w.alloc ob) := ⟨fun _ h => h, fun b hb => heap_alloc w ob b (hi.lt b hb), mput_go hk p⟩
  refine ⟨hi.put g ((Below.refl B w).alloc hi.hB ob) (fun b hb => by have := hi.lt b hb; simp; omega) (hput h k o) (l := k) (o := o) (fun j hj => .inl (hput_ne h o hj)) (hput_same h k o) hol ?_, g, fun l hl hne => by rw [mput_ne _ _ hne]; exact hl⟩
  intro j q b hj _ ho hq hb
  obtain ⟨h1, h2, h3⟩ := (hi.ob j).lt hq hb ho
  refine ⟨heap_alloc w ob b h1, h2, fun _ p' hp' hb' => ?_⟩
  rw [mput_same] at hp'
  obtain rfl := Option.some.inj hp'
  have := hp b hb'
  omega
theorem go_new (hi : Inv B w0 I μ h w) (hk : μ k = none) (p : Pl) (ob : Obj) : Go1 I I μ (mput μ k p) w (w.alloc ob) := ⟨fun _ h => h, fun b hb => heap_alloc w ob b (hi.lt b hb), mput_go hk p⟩
/-- A new variable. -/
theorem Inv.newVar (hi : Inv B w0 I μ h w) (hk : μ k = none) {cs : List D} {vs : List Value} (ty : TypeId) (hv : RpL w I μ cs vs) (hl : ∀ d ∈ cs, D.leaf d = true) :
    Inv B w0 I (mput μ k ⟨some w.heap.size, 0, .nilFunc⟩) (hput h k (.var cs true)) (w.alloc (.cells vs.toArray ty)) ∧ Go1 I I μ (mput μ k ⟨some w.heap.size, 0, .nilFunc⟩) w (w.alloc (.cells vs.toArray ty)) ∧
      (∀ l, μ l = none → l ≠ k → mput μ k ⟨some w.heap.size, 0, .nilFunc⟩ l = none) ∧ Rp (w.alloc (.cells vs.toArray ty)) I (mput μ k ⟨some w.heap.size, 0, .nilFunc⟩) (.ptr k 0 0) (.pointer (some ⟨w.heap.size, 0, none⟩)) := by
  have g := go_new (k := k) hi hk ⟨some w.heap.size, 0, .nilFunc⟩ (.cells vs.toArray ty)
  obtain ⟨h1, h2, h3⟩ := hi.new hk ⟨some w.heap.size, 0, .nilFunc⟩ (.var cs true) (.cells vs.toArray ty) (fun b hb => (Option.some.inj hb).symm)
    ⟨_, w.heap.size, vs, ty, mput_same _ _ _, rfl, hi.hB, heap_alloc_new w _, hl, hv.go g, fun _ hI => by have := hi.lt _ hI; omega, fun hf => by cases hf⟩
  exact ⟨h1, h2, h3, by have := Rp.ptr (w := w.alloc (.cells vs.toArray ty)) (I := I) (i := 0) (o := 0) (mput_same μ k ⟨some w.heap.size, 0, .nilFunc⟩) rfl; simpa using this⟩

/-! ### loads -/
theorem sub_some {cs ds : List D} {o n : Nat} (hs : sub cs o n = some ds) : o + n ≤ cs.length ∧ ds = (cs.drop o).take n ∧ ds.length = n := by
  unfold sub at hs
  split at hs
  · rename_i hle
    obtain rfl := Option.some.inj hs
    exact ⟨hle, rfl, by simp; omega⟩
  · cases hs
theorem sub_get {cs ds : List D} {o n : Nat} (hs : sub cs o n = some ds) {j : Nat} {d : D} (hd : ds[j]? = some d) : cs[o + j]? = some d ∧ j < n := by
  obtain ⟨h1, rfl, h3⟩ := sub_some hs
  have hj : j < n := by have := (List.getElem?_eq_some_iff.1 hd).1; omega
  rw [List.getElem?_take, if_pos hj, List.getElem?_drop] at hd
  exact ⟨hd, hj⟩
/-- A row of elements: the values of its cells. -/
theorem row_cell {sz n : Nat} {cells : List Value} {v : Value} {b : Nat} {ety : TypeId} (ho : w.ownsRow B ety sz v n cells) (hb : v.ownBlock = some b) {j : Nat} {u : Value} (hj : cells[j]? = some u) : w.cell? ⟨b, j, none⟩ = some u := by
  rcases ho.2 with ⟨rfl, _⟩ | ⟨g, cap, cur, rfl, _, hg, _, _, _, ht⟩
  · simp [Value.ownBlock] at hb
  · have : g = b := by simpa [Value.ownBlock] using hb
    subst this
    rw [cell_of_row w g j cur ety (0, 0) hg]
    rw [← ht, List.getElem?_take] at hj
    split at hj
    · simpa using hj
    · cases hj
/-- What lies behind a pointer. -/
theorem cellsAt_ok (hi : Inv B w0 I μ h w) (hv : Rp w I μ d v) {n : Nat} {cs : List D} (hc : cellsAt h n d = some cs) :
    ∃ ad us, v = .pointer (some ad) ∧ us.length = n ∧ RpL w I μ cs us ∧ (∀ d ∈ cs, D.leaf d = true) ∧ ∀ (j : Nat) (u : Value), us[j]? = some u → w.cell? (ad.add j) = some u := by
  cases d with
  | ipt cs' o =>
    have hs : sub cs' o n = some cs := hc
    obtain ⟨h1, h2, h3⟩ := sub_some hs
    cases hv with
    | im hm =>
      cases hm with
      | ipt f hI hlf hcell hr =>
        rename_i ad
        refine ⟨ad, (List.range n).map f, rfl, by simp, ⟨by simp [h3], fun j d v hd hv => ?_⟩, fun d hd => hlf d (by rw [h2] at hd; exact List.mem_of_mem_drop (List.mem_of_mem_take hd)), fun j u hu => ?_⟩
        · obtain ⟨hd1, hj⟩ := sub_get hs hd
          rw [List.getElem?_map, List.getElem?_range hj] at hv
          obtain rfl := Option.some.inj hv
          exact .im (hr j d hd1)
        · rw [List.getElem?_map] at hu
          obtain ⟨j', hj', rfl⟩ := Option.map_eq_some_iff.1 hu
          have hlt : j < n := by
            have := (List.getElem?_eq_some_iff.1 hj').1
            simpa using this
          rw [List.getElem?_range hlt] at hj'
          obtain rfl := Option.some.inj hj'
          exact hcell j cs[j] (sub_get hs (List.getElem?_eq_getElem (by omega))).1
  | ptr l i o =>
    have hp : ∃ p b, μ l = some p ∧ p.b = some b ∧ v = .pointer (some ⟨b, i * p.sz + o, none⟩) := by
      cases hv with
      | im hm => cases hm
      | ptr h1 h2 => exact ⟨_, _, h1, h2, rfl⟩
    obtain ⟨p, b, hp, hb, rfl⟩ := hp
    have ho := hi.ob l
    simp only [cellsAt] at hc
    cases hl : h l with
    | no => rw [hl] at hc; cases hc
    | mp es => rw [hl] at hc; cases hc
    | var cs' own =>
      rw [hl] at hc ho
      simp only at hc
      split at hc
      · rename_i hi0
        subst hi0
        obtain ⟨p', b', vs, ty, h1, h2, h3, h4, h5, h6, h7, h8⟩ := ho
        rw [hp] at h1; obtain rfl := Option.some.inj h1; rw [hb] at h2; obtain rfl := Option.some.inj h2
        obtain ⟨s1, s2, s3⟩ := sub_some hc
        refine ⟨_, (vs.drop o).take n, rfl, by have := h6.1; simp; omega, by rw [s2]; exact (h6.drop o).take n, fun d hd => h5 d (by rw [s2] at hd; exact List.mem_of_mem_drop (List.mem_of_mem_take hd)), fun j u hu => ?_⟩
        rw [Nat.zero_mul, Nat.zero_add, Addr.add_mid, cell_of_row w b (o + j) vs.toArray ty (0, 0) h4]
        rw [List.getElem?_take] at hu
        split at hu
        · rw [List.getElem?_drop] at hu; simpa using hu
        · cases hu
      · cases hc
    | row ety sz xs own =>
      rw [hl] at hc ho
      simp only at hc
      split at hc
      · rename_i x hx
        obtain ⟨p', cells, h1, h2, h3, h4, h5, h6, h7, h8, h9, h10⟩ := ho
        rw [hp] at h1; obtain rfl := Option.some.inj h1
        obtain ⟨s1, s2, s3⟩ := sub_some hc
        have hxl : x.length = sz := h6 x (List.mem_of_getElem? hx)
        have hlen : xs.flatten.length = cells.length := h8.1
        have hfl := flat_length h6
        have hix : i < xs.length := (List.getElem?_eq_some_iff.1 hx).1
        have hfit : i * sz + sz ≤ xs.length * sz := by rw [← Nat.succ_mul]; exact Nat.mul_le_mul_right _ hix
        have key : ∀ j d, cs[j]? = some d → xs.flatten[i * sz + o + j]? = some d := by
          intro j d hd
          obtain ⟨hd1, hj⟩ := sub_get hc hd
          rw [Nat.add_assoc, flat_get h6 hx (by omega)]
          exact hd1
        refine ⟨_, (cells.drop (i * sz + o)).take n, rfl, by simp; omega, ⟨by simp; omega, fun j d v hd hv => ?_⟩, fun d hd => h7 x (List.mem_of_getElem? hx) d (by rw [s2] at hd; exact List.mem_of_mem_drop (List.mem_of_mem_take hd)), fun j u hu => ?_⟩
        · rw [List.getElem?_take] at hv
          split at hv
          · rw [List.getElem?_drop] at hv
            exact .im (h8.2 _ d v (key j d hd) hv)
          · cases hv
        · rw [h2, Addr.add_mid]
          rw [List.getElem?_take] at hu
          split at hu
          · rw [List.getElem?_drop] at hu
            exact row_cell h5 (by rw [← h4]; exact hb) hu
          · cases hu
      · cases hc
  | _ => cases hc
theorem mkD_rp {ag : Bool} {cs : List D} {us : List Value} (hm : mkD ag cs = some d) (hu : RpL w I μ cs us) : (ag = true ∧ d = .agg cs ∧ Rp w I μ d (.agg us.toArray)) ∨ (ag = false ∧ cs = [d] ∧ ∃ u, us = [u] ∧ Rp w I μ d u) := by
  unfold mkD at hm
  split at hm
  · rename_i ha
    obtain rfl := Option.some.inj hm
    exact .inl ⟨ha, rfl, .agg us hu.1 hu.2⟩
  · rename_i ha
    split at hm
    · obtain rfl := Option.some.inj hm
      obtain ⟨u, r, rfl, h1, h2⟩ := hu.inv
      obtain rfl := h2.inv0
      exact .inr ⟨by simpa using ha, rfl, u, rfl, h1⟩
    · cases hm
theorem run_loadVar_at {t : TypeId} {n : Nat} {ag : Bool} (hn : szT P t = some n) (ha : agT P t = some ag) {ad : Addr} {us : List Value} (hl : us.length = n) (hc : ∀ (j : Nat) (u : Value), us[j]? = some u → w.cell? (ad.add j) = some u) :
    (ag = true → (loadVar t ad).run P w = .ok (.agg us.toArray) w) ∧ (ag = false → ∀ u, us = [u] → (loadVar t ad).run P w = .ok u w) := by
  unfold szT at hn
  obtain ⟨i, hi, hs⟩ := Option.map_eq_some_iff.1 hn
  unfold agT at ha
  obtain ⟨ds, hd, ha⟩ := Option.map_eq_some_iff.1 ha
  have hagg : (isAgg t).run P w = .ok ag w := by
    unfold isAgg
    rw [Sem.run_bind, run_underlying hd w]
    subst ha
    cases ds <;> simp [TypeDesc.isRow]
  refine ⟨fun h1 => ?_, fun h1 u hu => ?_⟩
  · subst h1
    have := run_loadCells_list (P := P) w ad us hc
    rw [hl] at this
    simp [loadVar, Sem.run_bind, hagg, sizeOf, typeInfo, hi, hs, this]
  · subst h1; subst hu
    have := hc 0 u rfl
    rw [show ad.add 0 = ad by simp [Addr.add]] at this
    simp [loadVar, Sem.run_bind, hagg, this]
theorem load_ok (hi : Inv B w0 I μ h w) (ho : OpsOk w I μ e ρ) {o : Oper} {t : TypeId} {x : Operand} (hop : o.op = .load t x) {n : Nat} {ag : Bool} {y : X} (hn : szT P t = some n) (ha : agT P t = some ag) (hx : cX x = some y)
    {cs : List D} (hc : cellsAt h n (y.ev e) = some cs) (hm : mkD ag cs = some d) : Res P B w0 I μ w k (execOp ρ o) d h := by
  obtain ⟨ad, us, hv, hl, hu, _, hcell⟩ := cellsAt_ok hi (ho x y hx) hc
  obtain ⟨r1, r2⟩ := run_loadVar_at (P := P) hn ha hl hcell
  rcases mkD_rp hm hu with ⟨ha, _, hr⟩ | ⟨ha, _, u, rfl, hr⟩
  · refine .pure hi ?_ hr
    simp [execOp, hop, hv, Instr.loadAt, Instr.sureAddr, r1 ha]
  · refine .pure hi ?_ hr
    simp [execOp, hop, hv, Instr.loadAt, Instr.sureAddr, r2 ha u rfl]
end
end Go.Proofs.Ytpdamhhaepcffaa.AE
/-
  AE, part 6: stores.
-/
set_option linter.unusedVariables false
set_option linter.unusedSimpArgs false
namespace Go.Proofs.Ytpdamhhaepcffaa.AE
open Go Go.RowKit
section
variable {P : Program} {B : Nat} {w0 w w' : World} {I I' : Nat → Prop} {μ μ' : Mu} {h h' : Hp} {e : Env} {ρ : Operand → Value} {d : D} {v : Value} {k : Nat}
theorem Rp.one (hr : Rp w I μ d v) (hl : d.leaf = true) : v.oneCell' = true := by
  cases hr with
  | im hm => exact hm.one hl
  | agg vs hs h => cases hl
  | tup vs hs h => cases hl
  | _ => rfl
theorem spl_nil {α : Type} (cs : List α) (o : Nat) : spl cs o [] = cs := by unfold spl; simp
theorem spl_cons {α : Type} (cs : List α) (o : Nat) (u : α) (r : List α) (h : o + (r.length + 1) ≤ cs.length) : spl (cs.set o u) (o + 1) r = spl cs o (u :: r) := by
  unfold spl
  have h1 : (cs.set o u).take (o + 1) = cs.take o ++ [u] := by
    rw [List.take_set, List.take_succ_eq_append_getElem (by omega), List.set_append_right _ _ (by simp; omega)]
    simp [show o - min o cs.length = 0 by omega]
  have h2 : (cs.set o u).drop (o + 1 + r.length) = cs.drop (o + 1 + r.length) := by rw [List.drop_set]; rw [if_pos (by omega)]
  rw [h1, h2, List.length_cons, show o + (r.length + 1) = o + 1 + r.length by omega]
  simp
theorem setCells_keep (b : Nat) : ∀ (us : List Value) (o : Nat) (w : World), (w.setCells b o us).os = w.os ∧ (w.setCells b o us).tape = w.tape ∧ (w.setCells b o us).output = w.output ∧ (w.setCells b o us).heap.size = w.heap.size ∧ ∀ k, k ≠ b → (w.setCells b o us).heap[k]? = w.heap[k]?
  | [], _, w => ⟨rfl, rfl, rfl, rfl, fun _ _ => rfl⟩
  | u :: r, o, w => by
    obtain ⟨h1, h2, h3, h4, h5⟩ := setCells_keep b r (o + 1) (w.setCell ⟨b, o, none⟩ u)
    exact ⟨h1, h2, h3, h4.trans (by simp), fun k hk => (h5 k hk).trans (Below.heap_setCell w _ u k hk)⟩
theorem setCells_heap (b : Nat) (ty : TypeId) : ∀ (us : List Value) (o : Nat) (w : World) (vs : List Value), w.heap[b]? = some (.cells vs.toArray ty (0, 0)) → o + us.length ≤ vs.length → (w.setCells b o us).heap[b]? = some (.cells (spl vs o us).toArray ty (0, 0))
  | [], o, w, vs, hb, _ => by rw [spl_nil]; exact hb
  | u :: r, o, w, vs, hb, hl => by
    rw [World.setCells, ← spl_cons vs o u r (by simpa using hl)]
    refine setCells_heap b ty r (o + 1) _ (vs.set o u) ?_ (by simp at hl ⊢; omega)
    have := heap_setCell_same w b o vs.toArray ty u hb
    simpa using this
theorem RpL.spl {cs ds : List D} {vs us : List Value} (h1 : RpL w I μ cs vs) (h2 : RpL w I μ ds us) (o : Nat) : RpL w I μ (spl cs o ds) (spl vs o us) := by
  unfold AE.spl
  rw [h2.1]
  exact ((h1.take o).app h2).app (h1.drop _)
theorem ImL.take {cs : List D} {vs : List Value} (h : ImL w I cs vs) (n : Nat) : ImL w I (cs.take n) (vs.take n) := by
  refine ⟨by simp [h.1], fun j d v a b => ?_⟩
  rw [List.getElem?_take] at a b
  split at a
  · rename_i hj; rw [if_pos hj] at b; exact h.2 j d v a b
  · cases a
theorem ImL.drop {cs : List D} {vs : List Value} (h : ImL w I cs vs) (n : Nat) : ImL w I (cs.drop n) (vs.drop n) :=
  ⟨by simp [h.1], fun j d v a b => h.2 (n + j) d v (by rw [← List.getElem?_drop]; exact a) (by rw [← List.getElem?_drop]; exact b)⟩
theorem ImL.app {cs cs' : List D} {vs vs' : List Value} (h : ImL w I cs vs) (h2 : ImL w I cs' vs') : ImL w I (cs ++ cs') (vs ++ vs') := by
  induction cs generalizing vs with
  | nil => obtain rfl := h.inv0; exact h2
  | cons a r ih => obtain ⟨v, q, rfl, h3, h4⟩ := h.inv; exact .cons h3 (ih h4)
theorem ImL.spl {cs ds : List D} {vs us : List Value} (h1 : ImL w I cs vs) (h2 : ImL w I ds us) (o : Nat) : ImL w I (spl cs o ds) (spl vs o us) := by
  unfold AE.spl
  rw [h2.1]
  exact ((h1.take o).app h2).app (h1.drop _)
theorem spl_take {α : Type} (l us : List α) (o m : Nat) (h : o + us.length ≤ m) (hm : m ≤ l.length) : (spl l o us).take m = spl (l.take m) o us := by
  unfold spl
  have e1 : ((l.take o ++ us).length) = o + us.length := by simp; omega
  rw [List.take_append, List.take_of_length_le (show (l.take o ++ us).length ≤ m by omega), e1, List.take_take, show min o m = o by omega, List.drop_take]
theorem mem_spl {α : Type} {cs ds : List α} {o : Nat} {x : α} (h : x ∈ spl cs o ds) : x ∈ cs ∨ x ∈ ds := by
  unfold spl at h
  rcases List.mem_append.1 h with h | h
  · rcases List.mem_append.1 h with h | h
    · exact .inl (List.mem_of_mem_take h)
    · exact .inr h
  · exact .inl (List.mem_of_mem_drop h)

theorem put_go (hi : Inv B w0 I μ h w) {l b : Nat} {p : Pl} (hp : μ l = some p) (hb : p.b = some b) (ho : (h l).isOwn = true) (o : Nat) (us : List Value) : Go1 I I μ μ w (w.setCells b o us) ∧ Below B w (w.setCells b o us) := by
  obtain ⟨h1, h2, h3⟩ := (hi.ob l).lt hp hb ho
  obtain ⟨k1, k2, k3, k4, k5⟩ := setCells_keep b us o w
  exact ⟨⟨fun _ h => h, fun c hc => k5 c (fun e => h2 (e ▸ hc)), fun _ _ h => h⟩, k1, k2, k3, by rw [k4]; exact Nat.le_refl _, fun c hc => k5 c (by omega)⟩
theorem putAt_ok (hi : Inv B w0 I μ h w) (hv : Rp w I μ d v) {n : Nat} {cs : List D} {us : List Value} (hu : RpL w I μ cs us) (hl : ∀ d ∈ cs, D.leaf d = true) (hp : putAt h n cs d = some h') :
    ∃ b o, v = .pointer (some ⟨b, o, none⟩) ∧ us.length = n ∧ (∀ j, j < us.length → (w.cell? ⟨b, o + j, none⟩).isSome = true) ∧ (∀ j, j < us.length → w.frozen? ⟨b, o + j, none⟩ = false) ∧ Inv B w0 I μ h' (w.setCells b o us) ∧ Go1 I I μ μ w (w.setCells b o us) := by
  cases d with
  | ptr l i o =>
    have hp0 : ∃ p b, μ l = some p ∧ p.b = some b ∧ v = .pointer (some ⟨b, i * p.sz + o, none⟩) := by
      cases hv with
      | im hm => cases hm
      | ptr h1 h2 => exact ⟨_, _, h1, h2, rfl⟩
    obtain ⟨p, b, hpl, hb, rfl⟩ := hp0
    have ho := hi.ob l
    simp only [putAt] at hp
    cases hlk : h l with
    | no => rw [hlk] at hp; cases hp
    | mp es => rw [hlk] at hp; cases hp
    | var cs' own =>
      rw [hlk] at hp ho
      cases own with
      | false => cases hp
      | true =>
        simp only at hp
        split at hp
        · rename_i hc
          obtain ⟨rfl, hc2, hc3⟩ := hc
          obtain rfl := Option.some.inj hp
          obtain ⟨p', b', vs, ty, h1, h2, h3, h4, h5, h6, h7, h8⟩ := ho
          rw [hpl] at h1; obtain rfl := Option.some.inj h1; rw [hb] at h2; obtain rfl := Option.some.inj h2
          have hlen : us.length = n := by rw [← hu.1]; exact hc3
          have hfit : o + us.length ≤ vs.length := by rw [← h6.1]; omega
          obtain ⟨g, hbel⟩ := put_go hi hpl hb (by rw [hlk]; rfl) o us
          refine ⟨b, o, by simp, hlen, fun j hj => ?_, fun j hj => frozen_of_row w b (o + j) _ ty h4, ?_, g⟩
          · rw [cell_of_row w b (o + j) vs.toArray ty (0, 0) h4]; simp; omega
          · refine hi.put g hbel (fun c hc => by rw [(setCells_keep b us o w).2.2.2.1]; exact hi.lt c hc) (l := l) (o := .var (spl cs' o cs) true) _ (fun j hj => .inl (hput_ne h _ hj)) (hput_same h l _) ?_ ?_
            · refine ⟨p, b, _, ty, hpl, hb, h3, setCells_heap b ty us o w vs h4 hfit, fun d hd => ?_, (h6.go g).spl (hu.go g) o, h7, fun hf => by cases hf⟩
              rcases mem_spl hd with hd | hd
              · exact h5 d hd
              · exact hl d hd
            · intro j q c hj _ hoj hq hqc
              obtain ⟨o1, o2, o3⟩ := (hi.ob j).lt hq hqc hoj
              have hne : c ≠ b := fun e => hi.dis j l q p c hj hoj (by rw [hlk]; rfl) hq hpl hqc (by rw [e]; exact hb)
              exact ⟨(setCells_keep b us o w).2.2.2.2 c hne, o2, fun _ p' hp' => by rw [hpl] at hp'; obtain rfl := Option.some.inj hp'; rw [hb]; intro he; exact hne (Option.some.inj he).symm⟩
        · cases hp
    | row ety sz xs own =>
      rw [hlk] at hp ho
      cases own with
      | false => cases hp
      | true =>
        simp only at hp
        split at hp
        · rename_i x hx
          split at hp
          · rename_i hc
            obtain ⟨hc2, hc3, hc4⟩ := hc
            obtain rfl := Option.some.inj hp
            obtain ⟨p', cells, h1, h2, h3, h4, h5, h6, h7, h8, h9, h10⟩ := ho
            rw [hpl] at h1; obtain rfl := Option.some.inj h1
            have hlen : us.length = n := by rw [← hu.1]; exact hc3
            have hxl : x.length = sz := h6 x (List.mem_of_getElem? hx)
            have hflen : xs.flatten.length = cells.length := h8.1
            have hfl := flat_length h6
            have hix : i < xs.length := (List.getElem?_eq_some_iff.1 hx).1
            have hfit : i * sz + sz ≤ xs.length * sz := by rw [← Nat.succ_mul]; exact Nat.mul_le_mul_right _ hix
            obtain ⟨g, hbel⟩ := put_go hi hpl hb (by rw [hlk]; rfl) (i * sz + o) us
            rcases h5.2 with ⟨hv0, _⟩ | ⟨gb, cap, cur, hv0, hBg, hg, hnc, hcm, hcs, htake⟩
            · rw [h4, hv0] at hb; simp [Value.ownBlock] at hb
            · have hgb : gb = b := by rw [h4, hv0] at hb; simpa [Value.ownBlock] using hb
              subst hgb
              have hcap : xs.length * sz ≤ cap * sz := Nat.mul_le_mul_right _ hnc
              have hlc : cur.toList.length = cap * sz := by simpa using hcs
              have hroom : i * sz + o + us.length ≤ cur.toList.length := by omega
              have hg' : w.heap[gb]? = some (.cells cur.toList.toArray ety (0, 0)) := by simpa using hg
              have hh := setCells_heap gb ety us (i * sz + o) w cur.toList hg' hroom
              refine ⟨gb, i * sz + o, by rw [h2], hlen, fun j hj => ?_, fun j hj => frozen_of_row w gb _ _ ety hg, ?_, g⟩
              · rw [cell_of_row w gb _ cur ety (0, 0) hg]; simp [hcs]; omega
              · refine hi.put g hbel (fun c hc => by rw [(setCells_keep gb us _ w).2.2.2.1]; exact hi.lt c hc) (l := l) (o := .row ety sz (xs.set i (spl x o cs)) true) _ (fun j hj => .inl (hput_ne h _ hj)) (hput_same h l _) ?_ ?_
                · have hcl : o + cs.length ≤ x.length := by omega
                  have him := (hu.go g).imF_of hc4
                  refine ⟨p, spl cells (i * sz + o) us, hpl, h2, h3, h4, ⟨?_, .inr ⟨gb, cap, (spl cur.toList (i * sz + o) us).toArray, by rw [hv0]; simp, hBg, hh, by simpa using hnc, hcm, by simp [spl_length hroom, hcs], ?_⟩⟩, fun y hy => ?_, fun y hy d hd => ?_, ?_, h9, fun hf => by cases hf⟩
                  · rw [spl_length (by omega)]; simp; omega
                  · rw [List.length_set]
                    simp only
                    rw [spl_take _ _ _ _ (by omega) (by omega), htake]
                  · rcases List.mem_or_eq_of_mem_set hy with hy | rfl
                    · exact h6 y hy
                    · rw [spl_length hcl]; exact hxl
                  · rcases List.mem_or_eq_of_mem_set hy with hy | rfl
                    · exact h7 y hy d hd
                    · rcases mem_spl hd with hd | hd
                      · exact h7 x (List.mem_of_getElem? hx) d hd
                      · exact hl d hd
                  · rw [flat_set h6 hx hcl]
                    exact (h8.go g).spl him _
                · intro j q c hj _ hoj hq hqc
                  obtain ⟨o1, o2, o3⟩ := (hi.ob j).lt hq hqc hoj
                  have hne : c ≠ gb := fun e => hi.dis j l q p c hj hoj (by rw [hlk]; rfl) hq hpl hqc (by rw [e]; exact hb)
                  exact ⟨(setCells_keep gb us _ w).2.2.2.2 c hne, o2, fun _ p' hp' => by rw [hpl] at hp'; obtain rfl := Option.some.inj hp'; rw [hb]; intro he; exact hne (Option.some.inj he).symm⟩
          · cases hp
        · cases hp
  | _ => cases hp
theorem store_ok (hi : Inv B w0 I μ h w) (ho : OpsOk w I μ e ρ) {o : Oper} {t : TypeId} {x x2 : Operand} (hop : o.op = .store t x x2) {n : Nat} {y y2 : X} (hn : szT P t = some n) (hx : cX x = some y) (hx2 : cX x2 = some y2)
    {cs : List D} (hc : (y2.ev e).cells = some cs) (hp : putAt h n cs (y.ev e) = some h') : Res P B w0 I μ w k (execOp ρ o) .und h' := by
  obtain ⟨h1, h2⟩ := (ho x2 y2 hx2).cells hc
  obtain ⟨b, off, hv, hl, hc1, hc2, hinv, hgo⟩ := putAt_ok hi (ho x y hx) h1 h2 hp
  have h3 : ∀ u ∈ (ρ x2).cells.toList, u.oneCell' = true := by
    intro u hu
    obtain ⟨j, hj⟩ := List.mem_iff_getElem?.1 hu
    have hjl : j < cs.length := by have := (List.getElem?_eq_some_iff.1 hj).1; rw [h1.1]; exact this
    exact (h1.2 j cs[j] u (List.getElem?_eq_getElem hjl) hj).one (h2 cs[j] (List.getElem_mem hjl))
  have hrun := run_storeCells_cells (P := P) b off (ρ x2).cells.toList 0 w (by simpa using hc1) (by simpa using hc2) h3
  refine ⟨.skip, undef, _, I, μ, ?_, .inr ⟨rfl, rfl⟩, .im .und, hinv, hgo, fun _ h _ => h, fun _ h => .inl h⟩
  unfold szT at hn
  obtain ⟨i, hi2, hs⟩ := Option.map_eq_some_iff.1 hn
  have hsz : ¬ (ρ x2).cells.size ≠ i.size := by rw [hs, ← Array.length_toList, hl]; simp
  simp only [Nat.add_zero] at hrun
  simp [execOp, hop, hv, Instr.storeAt, Instr.sureAddr, storeVar, sizeOf, typeInfo, hi2, hsz, hrun]
end
end Go.Proofs.Ytpdamhhaepcffaa.AE
/-
  AE, part 7: freezing: a block of the call's own is given up.
-/
set_option linter.unusedVariables false
set_option linter.unusedSimpArgs false
namespace Go.Proofs.Ytpdamhhaepcffaa.AE
open Go Go.RowKit
section
variable {P : Program} {B : Nat} {w0 w w' : World} {I I' : Nat → Prop} {μ μ' : Mu} {h h' : Hp} {e : Env} {ρ : Operand → Value} {d d' : D} {v : Value} {k : Nat}

/-- What more is not written from now on. -/
def addI (I : Nat → Prop) (p : Pl) : Nat → Prop := fun b => I b ∨ p.b = some b
theorem addI_go (p : Pl) : Go1 I (addI I p) μ μ w w := ⟨fun b hb => .inl hb, fun _ _ => rfl, fun _ _ h => h⟩
/-- The freezing of one block. -/
theorem Inv.freeze (hi : Inv B w0 I μ h w) {l : Nat} {p : Pl} (hp : μ l = some p) (hlt : ∀ b, p.b = some b → b < w.heap.size) (hfz : (h l).isOwn = false → ∀ b, p.b = some b → I b) {o : Ob} (ho : o.isOwn = false)
    (hol : ObOk B (addI I p) μ w l o) : Inv B w0 (addI I p) μ (hput h l o) w := by
  refine hi.put (addI_go p) (Below.refl _ _) (fun b hb => ?_) (l := l) (o := o) _ (fun j hj => .inl (hput_ne h o hj)) (hput_same h l o) hol ?_
  · rcases hb with hb | hb
    · exact hi.lt b hb
    · exact hlt b hb
  · intro j q c hj _ hoj hq hqc
    obtain ⟨o1, o2, o3⟩ := (hi.ob j).lt hq hqc hoj
    refine ⟨rfl, ?_, fun hf => by rw [ho] at hf; cases hf⟩
    rintro (hc | hc)
    · exact o2 hc
    · by_cases hol : (h l).isOwn = true
      · exact hi.dis j l q p c hj hoj hol hq hp hqc hc
      · exact o2 (hfz (by simpa using hol) c hc)
theorem row_im {ety sz : Nat} {xs : List (List D)} {cells : List Value} {v : Value} (h5 : w.ownsRow B ety sz v xs.length cells) (h6 : ∀ x ∈ xs, x.length = sz) (h7 : ∀ x ∈ xs, ∀ d ∈ x, D.leaf d = true) (h8 : ImL w I xs.flatten cells)
    (hI : ∀ b, v.ownBlock = some b → I b) : Im w I (.isl xs) v := by
  rcases h5.2 with ⟨rfl, hn⟩ | ⟨g, cap, cur, rfl, _, hg, hnc, _⟩
  · have : xs = [] := List.eq_nil_of_length_eq_zero hn
    subst this
    exact Im.isl (xs := []) (A := none) (c := 0) (sz := sz) (fun _ _ => undef) (Nat.le_refl _) (by simp) (by simp) (fun hne => absurd rfl hne) (fun i j x d hx => by simp at hx)
  · have key : ∀ i j x d, xs[i]? = some x → x[j]? = some d → cells[i * sz + j]? = some (cells.getD (i * sz + j) undef) ∧ Im w I d (cells.getD (i * sz + j) undef) := by
      intro i j x d hx hd
      have hj : j < sz := by have := (List.getElem?_eq_some_iff.1 hd).1; rw [h6 x (List.mem_of_getElem? hx)] at this; exact this
      have hf := flat_get h6 hx hj
      rw [hd] at hf
      obtain ⟨u, hu, hm⟩ := h8.get hf
      have : cells.getD (i * sz + j) undef = u := by simp [List.getD, hu]
      rw [this]
      exact ⟨hu, hm⟩
    refine .isl (sz := sz) (fun i j => cells.getD (i * sz + j) undef) hnc h6 h7 (fun _ => ⟨⟨g, 0, none⟩, rfl, hI g rfl, fun i j x d hx hd => ?_⟩) (fun i j x d hx hd => (key i j x d hx hd).2)
    have := row_cell (b := g) h5 rfl (key i j x d hx hd).1
    rw [Addr.add_mid, Nat.zero_add]
    exact this

/-- The blocks that are owned. -/
def OwnB (h : Hp) (μ : Mu) (b : Nat) : Prop := ∃ l p, (h l).isOwn = true ∧ μ l = some p ∧ p.b = some b
theorem OwnB.ge (hi : Inv B w0 I μ h w) {b : Nat} (ho : OwnB h μ b) : b < w.heap.size ∧ ¬ I b ∧ B ≤ b := by
  obtain ⟨l, p, h1, h2, h3⟩ := ho
  exact (hi.ob l).lt h2 h3 h1
theorem OwnB.sub {h h' : Hp} {b : Nat} (hs : ∀ l, (h' l).isOwn = true → (h l).isOwn = true) (ho : OwnB h' μ b) : OwnB h μ b := by
  obtain ⟨l, p, h1, h2, h3⟩ := ho
  exact ⟨l, p, hs l h1, h2, h3⟩
theorem own_sub_put {h : Hp} {l : Nat} {o : Ob} (ho : o.isOwn = false) : ∀ j, (hput h l o j).isOwn = true → (h j).isOwn = true := by
  intro j hj
  by_cases he : j = l
  · subst he; rw [hput_same, ho] at hj; cases hj
  · rw [hput_ne _ _ he] at hj; exact hj
/-- What freezing leaves. -/
def Fz (B : Nat) (w0 : World) (I : Nat → Prop) (μ : Mu) (w : World) (h : Hp) (d' : D) (h' : Hp) (v : Value) (lf : Bool) : Prop :=
  ∃ I', Go1 I I' μ μ w w ∧ Inv B w0 I' μ h' w ∧ Im w I' d' v ∧ ((∀ b, I' b → I b ∨ OwnB h μ b) ∧ ∀ l, (h' l).isOwn = true → (h l).isOwn = true) ∧ (lf = true → d'.leaf = true)
theorem frzL_ok {g : Hp → D → Option (D × Hp)} (hg : ∀ (I : Nat → Prop) (h h' : Hp) (d d' : D) (v : Value), g h d = some (d', h') → Inv B w0 I μ h w → Rp w I μ d v → Fz B w0 I μ w h d' h' v d.leaf) :
    ∀ (cs : List D) (I : Nat → Prop) (h h' : Hp) (cs' : List D) (vs : List Value), frzL g h cs = some (cs', h') → Inv B w0 I μ h w → RpL w I μ cs vs →
      ∃ I', Go1 I I' μ μ w w ∧ Inv B w0 I' μ h' w ∧ ImL w I' cs' vs ∧ ((∀ b, I' b → I b ∨ OwnB h μ b) ∧ ∀ l, (h' l).isOwn = true → (h l).isOwn = true) ∧ ((∀ d ∈ cs, D.leaf d = true) → ∀ d ∈ cs', D.leaf d = true)
  | [], I, h, h', cs', vs, he, hi, hv => by
    simp only [frzL, Option.some.injEq, Prod.mk.injEq] at he
    obtain ⟨rfl, rfl⟩ := he
    obtain rfl := hv.inv0
    exact ⟨I, .refl _ _ _, hi, .nil, ⟨fun b hb => .inl hb, fun l h => h⟩, fun h => h⟩
  | d :: r, I, h, h', cs', vs, he, hi, hv => by
    simp only [frzL, Option.bind_eq_some_iff, Option.some.injEq, Prod.mk.injEq] at he
    obtain ⟨p, hp, q, hq, rfl, rfl⟩ := he
    obtain ⟨v, vr, rfl, h1, h2⟩ := hv.inv
    obtain ⟨I1, g1, i1, m1, n1, l1⟩ := hg I h p.2 d p.1 v hp hi h1
    obtain ⟨I2, g2, i2, m2, n2, l2⟩ := frzL_ok hg r I1 p.2 q.2 q.1 vr hq i1 (h2.go g1)
    refine ⟨I2, g1.trans g2, i2, .cons (m1.go g2) m2, ⟨fun b hb => ?_, fun l h => n1.2 l (n2.2 l h)⟩, fun hl => ?_⟩
    · rcases n2.1 b hb with hb | hb
      · exact n1.1 b hb
      · exact .inr (hb.sub n1.2)
    · simp only [List.mem_cons, forall_eq_or_imp] at hl ⊢
      exact ⟨l1 hl.1, l2 hl.2⟩
theorem frz_ok : ∀ (n : Nat) (I : Nat → Prop) (h h' : Hp) (d d' : D) (v : Value), frz n h d = some (d', h') → Inv B w0 I μ h w → Rp w I μ d v → Fz B w0 I μ w h d' h' v d.leaf
  | 0, I, h, h', d, d', v, he, hi, hv => by cases he
  | n + 1, I, h, h', d, d', v, he, hi, hv => by
    have plain : ∀ {d : D}, Im w I d v → d.leaf = true ∨ d.leaf = false → Fz B w0 I μ w h d h v d.leaf := fun {d} hm _ => ⟨I, .refl _ _ _, hi, hm, ⟨fun b hb => .inl hb, fun l h => h⟩, fun h => h⟩
    have leafs : ∀ {d : D}, (d.leaf = true ∨ d.leaf = false) := fun {d} => by cases d.leaf <;> simp
    cases d with
    | osl l =>
      simp only [frz] at he
      have hoo := hi.ob l
      cases hl : h l with
      | row ety sz xs own =>
        rw [hl] at he hoo
        simp only [Option.some.injEq, Prod.mk.injEq] at he
        obtain ⟨rfl, rfl⟩ := he
        obtain ⟨p, cells, h1, h2, h3, h4, h5, h6, h7, h8, h9, h10⟩ := hoo
        have hval : v = p.val := by
          cases hv with
          | im hm => cases hm
          | osl h hv2 => rw [h1] at h; obtain rfl := Option.some.inj h; exact hv2.symm
        subst hval
        have hlt : ∀ b, p.b = some b → b < w.heap.size := fun b hb => (h5.lt b (by rw [← h4]; exact hb)).2
        have hol : ObOk B (addI I p) μ w l (.row ety sz xs false) := ⟨p, cells, h1, h2, h3, h4, h5, h6, h7, h8.go (addI_go (μ := μ) p), (fun hf => by cases hf), fun _ b hb => .inr hb⟩
        refine ⟨addI I p, addI_go p, hi.freeze h1 hlt (fun hf b hb => ?_) rfl hol, row_im h5 h6 h7 (h8.go (addI_go (μ := μ) p)) (fun b hb => .inr (by rw [h4]; exact hb)), ⟨fun b hb => ?_, own_sub_put rfl⟩, fun _ => rfl⟩
        · rw [hl] at hf; exact h10 hf b hb
        · rcases hb with hb | hb
          · exact .inl hb
          · cases own with
            | true => exact .inr ⟨l, p, by rw [hl]; rfl, h1, hb⟩
            | false => exact .inl (h10 rfl b hb)
      | _ => rw [hl] at he; cases he
    | ptr l i o =>
      simp only [frz] at he
      have hp0 : ∃ p b, μ l = some p ∧ p.b = some b ∧ v = .pointer (some ⟨b, i * p.sz + o, none⟩) := by
        cases hv with
        | im hm => cases hm
        | ptr h1 h2 => exact ⟨_, _, h1, h2, rfl⟩
      obtain ⟨p, b, hpl, hb, rfl⟩ := hp0
      have hoo := hi.ob l
      cases hl : h l with
      | var cs own =>
        rw [hl] at he hoo
        simp only at he
        split at he
        · rename_i hi0
          subst hi0
          obtain ⟨p', b', vs, ty, h1, h2, h3, h4, h5, h6, h7, h8⟩ := hoo
          rw [hpl] at h1; obtain rfl := Option.some.inj h1; rw [hb] at h2; obtain rfl := Option.some.inj h2
          simp only [Option.bind_eq_some_iff] at he
          obtain ⟨q, hq, he⟩ := he
          obtain ⟨I1, g1, i1, m1, n1, l1⟩ := frzL_ok (fun I h h' d d' v => frz_ok n I h h' d d' v) cs I h q.2 q.1 vs hq hi h6
          have hoo1 := i1.ob l
          cases hl1 : q.2 l with
          | var cs1 own1 =>
            rw [hl1] at he hoo1
            simp only [Option.some.injEq, Prod.mk.injEq] at he
            obtain ⟨rfl, rfl⟩ := he
            obtain ⟨p', b', vs', ty', k1, k2, k3, k4, k5, k6, k7, k8⟩ := hoo1
            rw [hpl] at k1; obtain rfl := Option.some.inj k1; rw [hb] at k2; obtain rfl := Option.some.inj k2
            have hlf := l1 h5
            have m2 : ImL w (addI I1 p) q.1 vs := m1.go (addI_go (μ := μ) p)
            have hol : ObOk B (addI I1 p) μ w l (.var q.1 false) := ⟨p, b, vs, ty, hpl, hb, h3, h4, hlf, m2.rp, (fun hf => by cases hf), fun _ => ⟨.inr hb, m2⟩⟩
            refine ⟨addI I1 p, g1.trans (addI_go p), i1.freeze hpl (fun c hc => ?_) (fun hf c hc => ?_) rfl hol, ?_, ⟨fun c hc => ?_, fun j hj => n1.2 j (own_sub_put rfl j hj)⟩, fun _ => rfl⟩
            · rw [hb] at hc; obtain rfl := Option.some.inj hc; exact (Array.getElem?_eq_some_iff.1 h4).1
            · rw [hb] at hc; obtain rfl := Option.some.inj hc; rw [hl1] at hf; exact (k8 hf).1
            · rw [Nat.zero_mul, Nat.zero_add]
              refine .ipt (fun j => vs.getD (o + j) undef) (.inr hb) hlf (fun j d hd => ?_) (fun j d hd => ?_)
              · obtain ⟨u, hu, hm⟩ := m2.get hd
                rw [Addr.add_mid, cell_of_row w b (o + j) vs.toArray ty (0, 0) h4]
                simp [List.getD, hu]
              · obtain ⟨u, hu, hm⟩ := m2.get hd
                simpa [List.getD, hu] using hm
            · rcases hc with hc | hc
              · exact n1.1 c hc
              · rw [hb] at hc; obtain rfl := Option.some.inj hc
                cases own with
                | true => exact .inr ⟨l, p, by rw [hl]; rfl, hpl, hb⟩
                | false => exact .inl (h8 rfl).1
          | _ => rw [hl1] at he; cases he
        · cases he
      | row ety sz xs own =>
        rw [hl] at he hoo
        simp only at he
        split at he
        · rename_i x hx
          simp only [Option.some.injEq, Prod.mk.injEq] at he
          obtain ⟨rfl, rfl⟩ := he
          obtain ⟨p', cells, h1, h2, h3, h4, h5, h6, h7, h8, h9, h10⟩ := hoo
          rw [hpl] at h1; obtain rfl := Option.some.inj h1
          have hlt : ∀ b, p.b = some b → b < w.heap.size := fun b hb => (h5.lt b (by rw [← h4]; exact hb)).2
          have hol : ObOk B (addI I p) μ w l (.row ety sz xs false) := ⟨p, cells, hpl, h2, h3, h4, h5, h6, h7, h8.go (addI_go (μ := μ) p), (fun hf => by cases hf), fun _ b hb => .inr hb⟩
          refine ⟨addI I p, addI_go p, hi.freeze hpl hlt (fun hf c hc => ?_) rfl hol, ?_, ⟨fun c hc => ?_, own_sub_put rfl⟩, fun _ => rfl⟩
          · rw [hl] at hf; exact h10 hf c hc
          · have key : ∀ j d, x[o + j]? = some d → ∃ u, cells[i * sz + (o + j)]? = some u ∧ Im w (addI I p) d u := by
              intro j d hd
              have hj : o + j < sz := by have := (List.getElem?_eq_some_iff.1 hd).1; rw [h6 x (List.mem_of_getElem? hx)] at this; exact this
              have hf := flat_get h6 hx hj
              rw [hd] at hf
              exact (h8.go (addI_go (μ := μ) p)).get hf
            refine .ipt (fun j => cells.getD (i * sz + (o + j)) undef) (.inr hb) (h7 x (List.mem_of_getElem? hx)) (fun j d hd => ?_) (fun j d hd => ?_)
            · obtain ⟨u, hu, hm⟩ := key j d hd
              rw [Addr.add_mid, h2]
              have := row_cell (b := b) h5 (by rw [← h4]; exact hb) hu
              rw [show i * sz + o + j = i * sz + (o + j) by omega, this]
              simp [List.getD, hu]
            · obtain ⟨u, hu, hm⟩ := key j d hd
              simpa [List.getD, hu] using hm
          · rcases hc with hc | hc
            · exact .inl hc
            · cases own with
              | true => exact .inr ⟨l, p, by rw [hl]; rfl, hpl, hc⟩
              | false => exact .inl (h10 rfl c hc)
        · cases he
      | _ => rw [hl] at he; cases he
    | agg cs =>
      simp only [frz, Option.bind_eq_some_iff, Option.some.injEq, Prod.mk.injEq] at he
      obtain ⟨q, hq, rfl, rfl⟩ := he
      have hv' : ∃ vs : List Value, v = .agg vs.toArray ∧ RpL w I μ cs vs := by
        cases hv with
        | im hm => cases hm with | agg vs hs h => exact ⟨vs, rfl, hs, fun j d v a b => .im (h j d v a b)⟩
        | agg vs hs h => exact ⟨vs, rfl, hs, h⟩
      obtain ⟨vs, rfl, hvs⟩ := hv'
      obtain ⟨I1, g1, i1, m1, n1, l1⟩ := frzL_ok (fun I h h' d d' v => frz_ok n I h h' d d' v) cs I h q.2 q.1 vs hq hi hvs
      exact ⟨I1, g1, i1, .agg vs m1.1 m1.2, n1, fun hf => by cases hf⟩
    | fn f cs =>
      simp only [frz, Option.bind_eq_some_iff, Option.some.injEq, Prod.mk.injEq] at he
      obtain ⟨q, hq, rfl, rfl⟩ := he
      have hv' : ∃ vs : List Value, v = .func (.func f) #[] vs.toArray ∧ RpL w I μ cs vs := by
        cases hv with
        | im hm => cases hm with | fn vs hs h => exact ⟨vs, rfl, hs, fun j d v a b => .im (h j d v a b)⟩
        | fn vs hs h => exact ⟨vs, rfl, hs, h⟩
      obtain ⟨vs, rfl, hvs⟩ := hv'
      obtain ⟨I1, g1, i1, m1, n1, l1⟩ := frzL_ok (fun I h h' d d' v => frz_ok n I h h' d d' v) cs I h q.2 q.1 vs hq hi hvs
      exact ⟨I1, g1, i1, .fn vs m1.1 m1.2, n1, fun _ => rfl⟩
    | tup cs => cases he
    | mpr l => cases he
    | own e sz xs => cases he
    | und | int k n | bool b | str s | nlf | nls | isl xs | ipt cs o =>
      simp only [frz, Option.some.injEq, Prod.mk.injEq] at he
      obtain ⟨rfl, rfl⟩ := he
      cases hv with
      | im hm => exact plain hm leafs
end
end Go.Proofs.Ytpdamhhaepcffaa.AE
/-
  AE, part 8: operations that leave memory alone.
-/
set_option linter.unusedVariables false
set_option linter.unusedSimpArgs false
namespace Go.Proofs.Ytpdamhhaepcffaa.AE
open Go Go.RowKit
section
variable {P : Program} {B : Nat} {w0 w w' : World} {I I' : Nat → Prop} {μ μ' : Mu} {h h' : Hp} {e : Env} {ρ : Operand → Value} {d d' : D} {v : Value} {k : Nat}
theorem Rp.bool_inv {b : Bool} (hv : Rp w I μ (.bool b) v) : v = .bool b := by cases hv with | im h => cases h; rfl
theorem Rp.int_inv {kd : IntKind} {n : Int} (hv : Rp w I μ (.int kd n) v) : v = .int kd n := by cases hv with | im h => cases h; rfl
theorem Rp.str_inv {s : ByteArray} (hv : Rp w I μ (.str s) v) : v = .string s := by cases hv with | im h => cases h; rfl
theorem Rp.tup_inv {cs : List D} (hv : Rp w I μ (.tup cs) v) : ∃ vs : List Value, v = .tuple vs.toArray ∧ RpL w I μ cs vs := by
  cases hv with
  | im h => cases h with | tup vs hs h => exact ⟨vs, rfl, hs, fun j d v a b => .im (h j d v a b)⟩
  | tup vs hs h => exact ⟨vs, rfl, hs, h⟩
theorem Rp.agg_inv {cs : List D} (hv : Rp w I μ (.agg cs) v) : ∃ vs : List Value, v = .agg vs.toArray ∧ RpL w I μ cs vs := by
  cases hv with
  | im h => cases h with | agg vs hs h => exact ⟨vs, rfl, hs, fun j d v a b => .im (h j d v a b)⟩
  | agg vs hs h => exact ⟨vs, rfl, hs, h⟩
theorem Rp.fn_inv {f : Nat} {cs : List D} (hv : Rp w I μ (.fn f cs) v) : ∃ vs : List Value, v = .func (.func f) #[] vs.toArray ∧ RpL w I μ cs vs := by
  cases hv with
  | im h => cases h with | fn vs hs h => exact ⟨vs, rfl, hs, fun j d v a b => .im (h j d v a b)⟩
  | fn vs hs h => exact ⟨vs, rfl, hs, h⟩
theorem Rp.ptr_inv {l i o : Nat} (hv : Rp w I μ (.ptr l i o) v) : ∃ p b, μ l = some p ∧ p.b = some b ∧ v = .pointer (some ⟨b, i * p.sz + o, none⟩) := by
  cases hv with
  | im hm => cases hm
  | ptr h1 h2 => exact ⟨_, _, h1, h2, rfl⟩
theorem Rp.bool (b : Bool) : Rp w I μ (.bool b) (.bool b) := .im (.bool b)
theorem Rp.int (kd : IntKind) (n : Int) : Rp w I μ (.int kd n) (.int kd n) := .im (.int kd n)
theorem Rp.str (s : ByteArray) : Rp w I μ (.str s) (.string s) := .im (.str s)

theorem binD_ok {bt : Bool} {op : BinOp} {a b : D} {x y : Value} {t : TypeId} {X Y : Operand} (hx : Rp w I μ a x) (hy : Rp w I μ b y) (hb : binD bt op a b = some d) (ht : bt = true → P.underlying t = some .bool) :
    ∃ v, (eqGuard op t X Y x y).run P w = .ok () w ∧ (binOp op t x y).run P w = .ok v w ∧ Rp w I μ d v := by
  cases a <;> cases b <;> simp only [binD] at hb <;> try (cases hb; done)
  · rename_i k1 n1 k2 n2
    obtain rfl := hx.int_inv; obtain rfl := hy.int_inv
    split at hb
    · rename_i hk; subst hk
      cases op <;> first | (cases hb; done) | (obtain rfl := Option.some.inj hb; refine ⟨_, by simp [eqGuard_at_int], ?_, (by first | exact .int _ _ | exact .bool _)⟩; simp [binOp, Op.intArith, Op.intCmp])
    · cases hb
  · rename_i b1 b2
    obtain rfl := hx.bool_inv; obtain rfl := hy.bool_inv
    split at hb
    · rename_i hbt
      have hu := ht hbt
      cases op <;> first | (cases hb; done) | (obtain rfl := Option.some.inj hb; refine ⟨_, by simp [eqGuard_at_bool], ?_, .bool _⟩; simp [binOp, Op.equal, Op.maxDepth, run_equalIn_bool' w _ _ _ _ hu])
    · cases hb
  · rename_i s1 s2
    obtain rfl := hx.str_inv; obtain rfl := hy.str_inv
    cases op <;> first | (cases hb; done) | skip
    · have hb : (if s1.size + s2.size ≤ 9223372036854775807 then some (D.str (s1 ++ s2)) else none) = some d := hb
      split at hb
      · rename_i hle
        obtain rfl := Option.some.inj hb
        refine ⟨_, by simp [eqGuard_at_string], ?_, .str _⟩
        have hle' : ¬ ((s1.size + s2.size : Nat) : Int) > IntKind.i64.max := by rw [IntKind.max_i64]; omega
        show (Op.stringOp .add s1 s2).run P w = _
        simp only [Op.stringOp]
        rw [if_neg hle']
        rfl
      · cases hb
    all_goals (obtain rfl := Option.some.inj hb; exact ⟨_, by simp [eqGuard_at_string], rfl, .bool _⟩)
theorem bin_ok (hi : Inv B w0 I μ h w) (ho : OpsOk w I μ e ρ) {o : Oper} {op : BinOp} {t t2 : TypeId} {x x2 : Operand} (hop : o.op = .binOp op t x x2 t2) {y y2 : X} (hx : cX x = some y) (hx2 : cX x2 = some y2) {bt : Bool} (ht : bt = true → P.underlying t = some .bool)
    (hb : binD bt op (y.ev e) (y2.ev e) = some d) : Res P B w0 I μ w k (execOp ρ o) d h := by
  obtain ⟨v, h1, h2, h3⟩ := binD_ok (P := P) (X := x) (Y := x2) (ho x y hx) (ho x2 y2 hx2) hb ht
  refine .pure hi ?_ h3
  simp [execOp, hop, h1, h2]
theorem eqL_ok {dd : Nat} : ∀ (fs : List Field) (o : Nat) (ks : List Nat), eqKs P o fs = some ks → ∀ (cs ds : List D) (xs ys : Array Value), RpL w I μ cs (xs.toList.drop o) → RpL w I μ ds (ys.toList.drop o) → ∀ t, eqL ks cs ds = some t → (Op.eqFields (dd + 1) xs ys fs).run P w = .ok t w
  | [], o, ks, hk, cs, ds, xs, ys, hx, hy, t, he => by
    obtain rfl := Option.some.inj hk
    cases cs <;> cases ds <;> simp [eqL] at he
    subst he
    simp [Op.eqFields]
  | f :: r, o, ks, hk, cs, ds, xs, ys, hx, hy, t, he => by
    simp only [eqKs] at hk
    split at hk
    · rename_i hf
      obtain ⟨hf1, hf2, hf3⟩ := hf
      simp only [Option.bind_eq_some_iff] at hk
      obtain ⟨k, hk1, q, hq, hk2⟩ := hk
      obtain rfl := Option.some.inj hk2
      cases cs with
      | nil => simp [eqL] at he
      | cons a cr =>
        cases ds with
        | nil => simp [eqL] at he
        | cons b dr =>
          simp only [eqL, Option.bind_eq_some_iff] at he
          obtain ⟨t1, ht1, t2, ht2, he⟩ := he
          obtain rfl := Option.some.inj he
          obtain ⟨va, vr, hva, ha1, ha2⟩ := hx.inv
          obtain ⟨vb, vr2, hvb, hb1, hb2⟩ := hy.inv
          have ga : xs[o]? = some va := by
            have : (xs.toList.drop o)[0]? = some va := by rw [hva]; rfl
            rw [List.getElem?_drop] at this
            simpa using this
          have gb : ys[o]? = some vb := by
            have : (ys.toList.drop o)[0]? = some vb := by rw [hvb]; rfl
            rw [List.getElem?_drop] at this
            simpa using this
          have da : xs.toList.drop (o + 1) = vr := by rw [← List.drop_drop, hva]; rfl
          have db : ys.toList.drop (o + 1) = vr2 := by rw [← List.drop_drop, hvb]; rfl
          have ih := eqL_ok (dd := dd) r (o + 1) q hq cr dr xs ys (by rw [da]; exact ha2) (by rw [db]; exact hb2) t2 ht2
          have hag : ∀ v, (f.offset = o) → xs[o]? = some v → P.underlying f.type ≠ none → (∀ fs, P.underlying f.type ≠ some (.struct fs)) → (∀ n e, P.underlying f.type ≠ some (.array n e)) → (part f.type xs f.offset).run P w = .ok v w := by
            intro v h1 h2 h3 h4 h5
            obtain ⟨dsc, hd⟩ := Option.ne_none_iff_exists'.1 h3
            have : (isAgg f.type).run P w = .ok false w := by
              unfold isAgg
              rw [Sem.run_bind, run_underlying hd w]
              cases dsc <;> first | (simp; done) | (exact absurd hd (h4 _)) | (exact absurd hd (h5 _ _))
            simp [part, Sem.run_bind, this, h1, h2]
          have hbg : ∀ v, (f.offset = o) → ys[o]? = some v → P.underlying f.type ≠ none → (∀ fs, P.underlying f.type ≠ some (.struct fs)) → (∀ n e, P.underlying f.type ≠ some (.array n e)) → (part f.type ys f.offset).run P w = .ok v w := by
            intro v h1 h2 h3 h4 h5
            obtain ⟨dsc, hd⟩ := Option.ne_none_iff_exists'.1 h3
            have : (isAgg f.type).run P w = .ok false w := by
              unfold isAgg
              rw [Sem.run_bind, run_underlying hd w]
              cases dsc <;> first | (simp; done) | (exact absurd hd (h4 _)) | (exact absurd hd (h5 _ _))
            simp [part, Sem.run_bind, this, h1, h2]
          have fin : ∀ (r1 : Bool), (part f.type xs f.offset).run P w = .ok va w → (part f.type ys f.offset).run P w = .ok vb w → (Op.equalIn (dd + 1) f.type va vb).run P w = .ok r1 w → (Op.eqFields (dd + 1) xs ys (f :: r)).run P w = .ok (r1 && t2) w := by
            intro r1 p1 p2 p3
            rw [Op.eqFields]
            simp only [if_pos hf2, Sem.run_bind, p1, p2, p3, Result.andThen_ok]
            cases r1
            · simp
            · simpa using ih
          cases a <;> cases b <;> simp only [eqC] at ht1 <;> try (cases ht1; done)
          · obtain rfl := ha1.int_inv; obtain rfl := hb1.int_inv
            split at ht1
            · rename_i hc
              obtain ⟨rfl, rfl⟩ := hc
              obtain rfl := Option.some.inj ht1
              cases hu : P.underlying f.type with
              | none => rw [hu] at hk1; cases hk1
              | some dsc =>
                cases dsc <;> rw [hu] at hk1 <;> first | (cases hk1; done) | (simp at hk1; done) | skip
                exact fin _ (hag _ hf1 ga (by simp [hu]) (by simp [hu]) (by simp [hu])) (hbg _ hf1 gb (by simp [hu]) (by simp [hu]) (by simp [hu])) (run_equalIn_int w _ _ _ _ _ _ hu)
            · cases ht1
          · obtain rfl := ha1.bool_inv; obtain rfl := hb1.bool_inv
            split at ht1
            · rename_i hc
              subst hc
              obtain rfl := Option.some.inj ht1
              cases hu : P.underlying f.type with
              | none => rw [hu] at hk1; cases hk1
              | some dsc =>
                cases dsc <;> rw [hu] at hk1 <;> first | (cases hk1; done) | (simp at hk1; done) | skip
                exact fin _ (hag _ hf1 ga (by simp [hu]) (by simp [hu]) (by simp [hu])) (hbg _ hf1 gb (by simp [hu]) (by simp [hu]) (by simp [hu])) (run_equalIn_bool' w _ _ _ _ hu)
            · cases ht1
          · obtain rfl := ha1.str_inv; obtain rfl := hb1.str_inv
            split at ht1
            · rename_i hc
              subst hc
              obtain rfl := Option.some.inj ht1
              cases hu : P.underlying f.type with
              | none => rw [hu] at hk1; cases hk1
              | some dsc =>
                cases dsc <;> rw [hu] at hk1 <;> first | (cases hk1; done) | (simp at hk1; done) | skip
                exact fin _ (hag _ hf1 ga (by simp [hu]) (by simp [hu]) (by simp [hu])) (hbg _ hf1 gb (by simp [hu]) (by simp [hu]) (by simp [hu])) (run_equalIn_string w _ _ _ _ hu)
            · cases ht1
    · cases hk
theorem eqs_ok (hi : Inv B w0 I μ h w) (ho : OpsOk w I μ e ρ) {o : Oper} {op : BinOp} {t t2 : TypeId} {x x2 : Operand} (hop : o.op = .binOp op t x x2 t2) {y y2 : X} (hx : cX x = some y) (hx2 : cX x2 = some y2) {neg : Bool} (hn : (op = .eql ∧ neg = false) ∨ (op = .neq ∧ neg = true))
    {fs : Array Field} (hu : P.underlying t = some (.struct fs)) {ks : List Nat} (hks : eqKs P 0 fs.toList = some ks) (hs : P.stoodInHeld t = false) (hg : P.eqGuardType P.depth t = false) {cs ds : List D} (h1 : y.ev e = .agg cs) (h2 : y2.ev e = .agg ds) {tt : Bool} (he : eqL ks cs ds = some tt) :
    Res P B w0 I μ w k (execOp ρ o) (.bool (if neg then !tt else tt)) h := by
  have r1 := ho x y hx
  have r2 := ho x2 y2 hx2
  rw [h1] at r1
  rw [h2] at r2
  obtain ⟨xs, hxs, hx3⟩ := r1.agg_inv
  obtain ⟨ys, hys, hy3⟩ := r2.agg_inv
  have hf : P.fieldsOf t = fs := by simp [Program.fieldsOf, hu]
  have hrun := eqL_ok (P := P) (dd := 9998) fs.toList 0 ks hks cs ds xs.toArray ys.toArray (by simpa using hx3) (by simpa using hy3) tt he
  have heq : (Op.equalIn 10000 t (.agg xs.toArray) (.agg ys.toArray)).run P w = .ok tt w := by
    rw [run_equalIn_struct w 9999 t _ _ (by rw [hf]; exact hu) hs, hf]
    exact hrun
  have hgd := run_eqGuard_agg w op t x x2 xs.toArray ys.toArray hg
  refine .pure hi (v := .bool (if neg then !tt else tt)) ?_ (.bool _)
  rcases hn with ⟨rfl, rfl⟩ | ⟨rfl, rfl⟩
  · simp [execOp, hop, hxs, hys, hgd, run_eql_struct, heq]
  · simp [execOp, hop, hxs, hys, hgd, run_neq_struct, heq]
theorem un_ok (hi : Inv B w0 I μ h w) (ho : OpsOk w I μ e ρ) {o : Oper} {op : UnOp} {t : TypeId} {x : Operand} (hop : o.op = .unOp op t x) {y : X} (hx : cX x = some y) (hb : unD op (y.ev e) = some d) : Res P B w0 I μ w k (execOp ρ o) d h := by
  have r1 := ho x y hx
  generalize y.ev e = a at *
  cases a <;> simp only [unD] at hb <;> try (cases hb; done)
  · obtain hv := r1.int_inv
    cases op <;> first | (cases hb; done) | (obtain rfl := Option.some.inj hb; refine .pure hi ?_ (.int _ _); simp [execOp, hop, hv, Op.unary, Op.intArith])
  · obtain hv := r1.bool_inv
    cases op <;> first | (cases hb; done) | (obtain rfl := Option.some.inj hb; refine .pure hi ?_ (.bool _); simp [execOp, hop, hv, Op.unary])
end
end Go.Proofs.Ytpdamhhaepcffaa.AE
/-
  AE, part 9: more operations.
-/
set_option linter.unusedVariables false
set_option linter.unusedSimpArgs false
namespace Go.Proofs.Ytpdamhhaepcffaa.AE
open Go Go.RowKit
section
variable {P : Program} {B : Nat} {w0 w w' : World} {I I' : Nat → Prop} {μ μ' : Mu} {h h' : Hp} {e : Env} {ρ : Operand → Value} {d d' : D} {v : Value} {k : Nat}
theorem szT_run {t : TypeId} {n : Nat} (hn : szT P t = some n) : (sizeOf t).run P w = .ok n w := by
  unfold szT at hn
  obtain ⟨i, hi, hs⟩ := Option.map_eq_some_iff.1 hn
  simp [sizeOf, typeInfo, hi, hs]
theorem mv_ok (hi : Inv B w0 I μ h w) (ho : OpsOk w I μ e ρ) {o : Oper} {x : Operand} (hop : o.op = .move x ∨ o.op = .assign x) {y : X} (hx : cX x = some y) : Res P B w0 I μ w k (execOp ρ o) (y.ev e) h := by
  refine .pure hi (v := ρ x) ?_ (ho x y hx)
  rcases hop with hop | hop <;> simp [execOp, hop]
theorem pick_ok (hi : Inv B w0 I μ h w) (ho : OpsOk w I μ e ρ) {o : Oper} {c a b : Operand} (hop : o.op = .pick c a b) {yc ya yb : X} (hc : cX c = some yc) (ha : cX a = some ya) (hb : cX b = some yb) {t : Bool} (ht : asB (yc.ev e) = some t) :
    Res P B w0 I μ w k (execOp ρ o) (if t then ya.ev e else yb.ev e) h := by
  obtain ⟨h1, _⟩ := (ho c yc hc).asB ht
  refine .pure hi (v := if t then ρ a else ρ b) ?_ ?_
  · cases t <;> simp [execOp, hop, h1, asBool]
  · cases t
    · exact ho b yb hb
    · exact ho a ya ha
theorem ext_ok (hi : Inv B w0 I μ h w) (ho : OpsOk w I μ e ρ) {o : Oper} {x : Operand} {j : Nat} (hop : o.op = .extract x j) {y : X} (hx : cX x = some y) {cs : List D} (hy : y.ev e = .tup cs) (hd : cs[j]? = some d) : Res P B w0 I μ w k (execOp ρ o) d h := by
  have r1 := ho x y hx
  rw [hy] at r1
  obtain ⟨vs, hv, h1⟩ := r1.tup_inv
  obtain ⟨u, hu, h2⟩ := h1.get hd
  refine .pure hi (v := u) ?_ h2
  simp [execOp, hop, hv, Instr.extract, hu]
theorem run_part {t : TypeId} {n : Nat} {ag : Bool} (hn : szT P t = some n) (ha : agT P t = some ag) {us : List Value} {off : Nat} :
    (ag = true → (part t us.toArray off).run P w = .ok (.agg ((us.drop off).take n).toArray) w) ∧ (ag = false → ∀ u, (us.drop off).take n = [u] → (part t us.toArray off).run P w = .ok u w) := by
  unfold agT at ha
  obtain ⟨ds, hd, ha⟩ := Option.map_eq_some_iff.1 ha
  have hagg : (isAgg t).run P w = .ok ag w := by
    unfold isAgg
    rw [Sem.run_bind, run_underlying hd w]
    subst ha
    cases ds <;> simp [TypeDesc.isRow]
  refine ⟨fun h1 => ?_, fun h1 u hu => ?_⟩
  · subst h1
    simp [part, Sem.run_bind, hagg, szT_run hn, List.extract_toArray]
  · subst h1
    have : us[off]? = some u := by
      have h2 : ((us.drop off).take n)[0]? = some u := by rw [hu]; rfl
      rw [List.getElem?_take] at h2
      split at h2
      · rw [List.getElem?_drop] at h2; simpa using h2
      · cases h2
    simp [part, Sem.run_bind, hagg, this]
theorem fld_ok (hi : Inv B w0 I μ h w) (ho : OpsOk w I μ e ρ) {o : Oper} {t : TypeId} {x : Operand} {f : Nat} (hop : o.op = .field t x f) {fs : Array Field} (hu : P.underlying t = some (.struct fs)) {fd : Field} (hf : fs[f]? = some fd) {n : Nat} {ag : Bool}
    (hn : szT P fd.type = some n) (ha : agT P fd.type = some ag) {y : X} (hx : cX x = some y) {cs ds : List D} (hy : y.ev e = .agg cs) (hs : sub cs fd.offset n = some ds) (hm : mkD ag ds = some d) : Res P B w0 I μ w k (execOp ρ o) d h := by
  have r1 := ho x y hx
  rw [hy] at r1
  obtain ⟨vs, hv, h1⟩ := r1.agg_inv
  obtain ⟨s1, s2, s3⟩ := sub_some hs
  have h2 : RpL w I μ ds ((vs.drop fd.offset).take n) := by rw [s2]; exact (h1.drop _).take _
  obtain ⟨p1, p2⟩ := run_part (P := P) (w := w) (us := vs) (off := fd.offset) hn ha
  rcases mkD_rp hm h2 with ⟨ha, _, hr⟩ | ⟨ha, _, u, hu2, hr⟩
  · refine .pure hi ?_ hr
    simp [execOp, hop, hv, Instr.field, run_underlying hu, hf, asAgg, p1 ha]
  · refine .pure hi ?_ hr
    simp [execOp, hop, hv, Instr.field, run_underlying hu, hf, asAgg, p2 ha u hu2]
/-- A pointer some cells on. -/
theorem Rp.fwd (hv : Rp w I μ d v) (off : Nat) : (∀ cs o, d = .ipt cs o → ∃ ad, v = .pointer (some ad) ∧ Rp w I μ (.ipt cs (o + off)) (.pointer (some (ad.add off)))) ∧ (∀ l i o, d = .ptr l i o → ∃ ad, v = .pointer (some ad) ∧ Rp w I μ (.ptr l i (o + off)) (.pointer (some (ad.add off)))) := by
  refine ⟨fun cs o hd => ?_, fun l i o hd => ?_⟩
  · subst hd
    cases hv with
    | im hm =>
      cases hm with
      | ipt f hI hlf hcell hr =>
        rename_i ad
        have aa : ∀ j, (ad.add off).add j = ad.add (off + j) := fun j => by
          unfold Addr.add
          by_cases h1 : off = 0
          · subst h1; simp
          · by_cases h2 : j = 0
            · subst h2; simp [h1]
            · simp [h1, h2, Nat.add_assoc]
        exact ⟨ad, rfl, .im (.ipt (fun j => f (off + j)) (by rw [add_block]; exact hI) hlf (fun j d hd => by rw [aa]; exact hcell _ d (by rw [← Nat.add_assoc]; exact hd)) (fun j d hd => hr _ d (by rw [← Nat.add_assoc]; exact hd)))⟩
  · subst hd
    obtain ⟨p, b, h1, h2, rfl⟩ := hv.ptr_inv
    refine ⟨_, rfl, ?_⟩
    rw [Addr.add_mid, Nat.add_assoc]
    exact .ptr h1 h2
theorem fad_ok (hi : Inv B w0 I μ h w) (ho : OpsOk w I μ e ρ) {o : Oper} {t : TypeId} {x : Operand} {f : Nat} (hop : o.op = .fieldAddr t x f) {fs : Array Field} (hu : P.underlying t = some (.struct fs)) {fd : Field} (hf : fs[f]? = some fd) {n : Nat} (hn : szT P fd.type = some n) (hn0 : n ≠ 0) {y : X} (hx : cX x = some y)
    (hd : (∃ cs o, y.ev e = .ipt cs o ∧ d = .ipt cs (o + fd.offset)) ∨ (∃ l i o, y.ev e = .ptr l i o ∧ d = .ptr l i (o + fd.offset))) : Res P B w0 I μ w k (execOp ρ o) d h := by
  have r1 := ho x y hx
  obtain ⟨f1, f2⟩ := r1.fwd fd.offset
  have : ∃ ad, ρ x = .pointer (some ad) ∧ Rp w I μ d (.pointer (some (ad.add fd.offset))) := by
    rcases hd with ⟨cs, o, h1, rfl⟩ | ⟨l, i, o, h1, rfl⟩
    · exact f1 cs o h1
    · exact f2 l i o h1
  obtain ⟨ad, hv, hr⟩ := this
  refine .pure hi ?_ hr
  simp [execOp, hop, hv, Instr.fieldAt, run_underlying hu, hf, Instr.sureAddr, fieldPlace, szT_run hn, hn0]
theorem iaA_ok (hi : Inv B w0 I μ h w) (ho : OpsOk w I μ e ρ) {o : Oper} {t et : TypeId} {x x2 : Operand} (hop : o.op = .indexAddr t x x2) {n : Nat} (hu : P.underlying t = some (.array n et)) {sz : Nat} (hn : szT P et = some sz) {y y2 : X} (hx : cX x = some y) (hx2 : cX x2 = some y2) {j : Int}
    (hj : asI (y2.ev e) = some j) (h0 : 0 ≤ j) (h1 : j < n) (hd : (∃ cs o, y.ev e = .ipt cs o ∧ d = .ipt cs (o + j.toNat * sz)) ∨ (∃ l i o, y.ev e = .ptr l i o ∧ d = .ptr l i (o + j.toNat * sz))) : Res P B w0 I μ w k (execOp ρ o) d h := by
  have r1 := ho x y hx
  obtain ⟨kd, hv2, _⟩ := (ho x2 y2 hx2).asI hj
  obtain ⟨f1, f2⟩ := r1.fwd (j.toNat * sz)
  have : ∃ ad, ρ x = .pointer (some ad) ∧ Rp w I μ d (.pointer (some (ad.add (j.toNat * sz)))) := by
    rcases hd with ⟨cs, o, h1, rfl⟩ | ⟨l, i, o, h1, rfl⟩
    · exact f1 cs o h1
    · exact f2 l i o h1
  obtain ⟨ad, hv, hr⟩ := this
  refine .pure hi ?_ hr
  simp [execOp, hop, hv, hv2, Instr.indexAt, asIntOf, run_underlying hu, Instr.sureAddr, szT_run hn, h0, h1]
theorem iaS_ok (hi : Inv B w0 I μ h w) (ho : OpsOk w I μ e ρ) {o : Oper} {t et : TypeId} {x x2 : Operand} (hop : o.op = .indexAddr t x x2) (hu : P.underlying t = some (.slice et)) {sz : Nat} (hn : szT P et = some sz) {y y2 : X} (hx : cX x = some y) (hx2 : cX x2 = some y2) {j : Int}
    (hj : asI (y2.ev e) = some j) (h0 : 0 ≤ j) (hd : (∃ xs z, y.ev e = .isl xs ∧ xs[j.toNat]? = some z ∧ z.length = sz ∧ d = .ipt z 0) ∨ (∃ l ety xs own, y.ev e = .osl l ∧ h l = .row ety sz xs own ∧ j.toNat < xs.length ∧ d = .ptr l j.toNat 0)) : Res P B w0 I μ w k (execOp ρ o) d h := by
  have r1 := ho x y hx
  obtain ⟨kd, hv2, _⟩ := (ho x2 y2 hx2).asI hj
  have : ∃ ad n c, ρ x = .slice (some ad) n c ∧ j.toNat < n ∧ Rp w I μ d (.pointer (some (ad.add (j.toNat * sz)))) := by
    rcases hd with ⟨xs, z, h1, hz, hzl, rfl⟩ | ⟨l, ety, xs, own, h1, hl, hjl, rfl⟩
    · rw [h1] at r1
      generalize ρ x = v at r1 ⊢
      cases r1 with
      | im hm =>
        cases hm with
        | isl f hc hlen hlf hcell hr =>
          have hne : xs ≠ [] := by intro he; subst he; simp at hz
          obtain ⟨ad, rfl, hI, hcl⟩ := hcell hne
          have hsz := hlen z (List.mem_of_getElem? hz)
          rw [hzl] at hsz
          subst hsz
          refine ⟨ad, _, _, rfl, (List.getElem?_eq_some_iff.1 hz).1, .im (.ipt (fun i => f j.toNat i) (by rw [add_block]; exact hI) (hlf z (List.mem_of_getElem? hz)) (fun i d hd => ?_) (fun i d hd => hr j.toNat i z d hz (by simpa using hd)))⟩
          have := hcl j.toNat i z d hz (by simpa using hd)
          rw [← this]
          congr 1
          unfold Addr.add
          by_cases h1 : j.toNat * sz = 0
          · by_cases h2 : i = 0
            · subst h2; simp [h1]
            · simp [h1, h2]
          · by_cases h2 : i = 0
            · subst h2; simp [h1]
            · simp [h1, h2, Nat.add_assoc]
    · rw [h1] at r1
      have hoo := hi.ob l
      rw [hl] at hoo
      obtain ⟨p, cells, k1, k2, k3, k4, k5, k6, k7, k8, k9, k10⟩ := hoo
      generalize ρ x = v at r1 ⊢
      cases r1 with
      | im hm => cases hm
      | osl hp hv =>
        rw [k1] at hp
        obtain rfl := Option.some.inj hp
        rcases k5.2 with ⟨hn, hn0⟩ | ⟨g, cap, cur, hvv, _⟩
        · omega
        · rw [hv] at hvv
          injection hvv with e1 e2 e3
          subst e1; subst e2; subst e3
          refine ⟨_, _, _, rfl, hjl, ?_⟩
          rw [Addr.add_mid, Nat.zero_add, ← k2]
          exact Rp.ptr (o := 0) k1 (by rw [k4, hv]; rfl)
  obtain ⟨ad, n, c, hv, hjn, hr⟩ := this
  refine .pure hi ?_ hr
  have hj2 : j < (n : Int) := by omega
  simp [execOp, hop, hv, hv2, Instr.indexAt, asIntOf, run_underlying hu, szT_run hn, h0, hj2]
theorem ixS_ok (hi : Inv B w0 I μ h w) (ho : OpsOk w I μ e ρ) {o : Oper} {t : TypeId} {x x2 : Operand} (hop : o.op = .index t x x2) (hu : P.underlying t = some .string) {y y2 : X} (hx : cX x = some y) (hx2 : cX x2 = some y2) {j : Int} (hj : asI (y2.ev e) = some j)
    {s : ByteArray} (hs : y.ev e = .str s) (h0 : 0 ≤ j ∧ j.toNat < s.size) : Res P B w0 I μ w k (execOp ρ o) (.int .u8 (s[j.toNat]'h0.2).toNat) h := by
  have r1 := ho x y hx
  rw [hs] at r1
  have hv := r1.str_inv
  obtain ⟨kd, hv2, _⟩ := (ho x2 y2 hx2).asI hj
  refine .pure hi ?_ (.int _ _)
  simp [execOp, hop, hv, hv2, Instr.index, asIntOf, run_underlying hu, h0.1, h0.2]
/-- How many elements. -/
theorem elems_len (hi : Inv B w0 I μ h w) (hv : Rp w I μ d v) {xs : List (List D)} (he : elems h d = some xs) : ∃ A c, v = .slice A xs.length c ∧ xs.length ≤ c := by
  cases d <;> simp only [elems] at he <;> try (cases he; done)
  · obtain rfl := Option.some.inj he
    cases hv with | im hm => cases hm; exact ⟨none, 0, rfl, Nat.le_refl _⟩
  · obtain rfl := Option.some.inj he
    cases hv with | im hm => cases hm with | isl f hc => exact ⟨_, _, rfl, hc⟩
  · rename_i l
    have hoo := hi.ob l
    cases hl : h l with
    | row ety sz ys own =>
      rw [hl] at he hoo
      obtain rfl := Option.some.inj he
      obtain ⟨p, cells, k1, k2, k3, k4, k5, k6, k7, k8, k9, k10⟩ := hoo
      cases hv with
      | im hm => cases hm
      | osl hp hv =>
        rw [k1] at hp
        obtain rfl := Option.some.inj hp
        rcases k5.2 with ⟨hn, hn0⟩ | ⟨g, cap, cur, hvv, _, _, hle, _⟩
        · rw [hv] at hn
          injection hn with e1 e2 e3
          subst e1; subst e2; subst e3
          exact ⟨none, 0, by rw [hn0], by omega⟩
        · rw [hv] at hvv
          injection hvv with e1 e2 e3
          subst e1; subst e2; subst e3
          exact ⟨_, _, rfl, hle⟩
    | _ => rw [hl] at he; cases he
theorem len_ok (hi : Inv B w0 I μ h w) (ho : OpsOk w I μ e ρ) {o : Oper} {c : Go.Call} (hop : o.op = .call c) (hc : c.callee = .builtin .len) {x : Operand} {t : TypeId} (ha : c.args.toList = [x]) (hat : c.argTypes.toList = [t]) {y : X} (hx : cX x = some y)
    (hd : (P.underlying t = some .string ∨ ∃ et, P.underlying t = some (.slice et))) (hev : (∃ s, y.ev e = .str s ∧ d = .int .i64 s.size ∧ P.underlying t = some .string) ∨ (∃ xs, elems h (y.ev e) = some xs ∧ d = .int .i64 xs.length ∧ ∃ et, P.underlying t = some (.slice et))) : Res P B w0 I μ w k (execOp ρ o) d h := by
  have h1 : c.args = #[x] := by rw [← Array.toArray_toList (xs := c.args), ha]
  have h2 : c.argTypes = #[t] := by rw [← Array.toArray_toList (xs := c.argTypes), hat]
  have r1 := ho x y hx
  rcases hev with ⟨s, hs, rfl, hu⟩ | ⟨xs, hxs, rfl, et, hu⟩
  · rw [hs] at r1
    have hv := r1.str_inv
    refine .pure hi ?_ (.int _ _)
    simp [execOp, hop, resolve, hc, h1, h2, invoke, builtin, hv, Builtin.len_, run_underlying hu, goInt]
  · obtain ⟨A, cc, hv, _⟩ := elems_len hi r1 hxs
    refine .pure hi ?_ (.int _ _)
    simp [execOp, hop, resolve, hc, h1, h2, invoke, builtin, hv, Builtin.len_, run_underlying hu, goInt]
theorem cvi_ok (hi : Inv B w0 I μ h w) (ho : OpsOk w I μ e ρ) {o : Oper} {s t : TypeId} {ks kt : IntKind} {x : Operand} (hop : o.op = .convert s t x) (hs : P.underlying s = some (.int ks)) (ht : P.underlying t = some (.int kt)) {y : X} (hx : cX x = some y) {n : Int} (hn : AE.asI (y.ev e) = some n) : Res P B w0 I μ w k (execOp ρ o) (.int kt (kt.wrap n)) h := by
  have r1 := ho x y hx
  generalize y.ev e = a at *
  cases a <;> simp only [AE.asI] at hn <;> try (cases hn; done)
  obtain rfl := Option.some.inj hn
  have hv := r1.int_inv
  refine .pure hi ?_ (.int _ _)
  simp [execOp, hop, hv, convert, run_underlying hs, run_underlying ht, Conv.intToInt]
theorem mm_ok (hi : Inv B w0 I μ h w) (ho : OpsOk w I μ e ρ) {o : Oper} {c : Go.Call} {up : Bool} (hop : o.op = .call c) (hc : c.callee = .builtin (if up then .max else .min)) {x x2 : Operand} (ha : c.args.toList = [x, x2]) {y y2 : X} (hx : cX x = some y) (hx2 : cX x2 = some y2) (hev : mmD up (y.ev e) (y2.ev e) = some d) : Res P B w0 I μ w k (execOp ρ o) d h := by
  have h1 : c.args = #[x, x2] := by rw [← Array.toArray_toList (xs := c.args), ha]
  have r1 := ho x y hx
  have r2 := ho x2 y2 hx2
  generalize y.ev e = a at *
  generalize y2.ev e = b at *
  cases a <;> cases b <;> simp only [mmD] at hev <;> try (cases hev; done)
  split at hev
  · rename_i hk
    obtain rfl := Option.some.inj hev
    subst hk
    have hv := r1.int_inv
    have hv2 := r2.int_inv
    refine .pure hi ?_ (.int _ _)
    cases up <;> simp [execOp, hop, resolve, hc, h1, invoke, builtin, hv, hv2, Builtin.max_, Builtin.min_, Builtin.max2, Builtin.min2]
  · cases hev
theorem mkfn_ok (hi : Inv B w0 I μ h w) (ho : OpsOk w I μ e ρ) {o : Oper} {f : Nat} {first caps : Array Operand} (hop : o.op = .makeFunc (.func f) first caps) (hf : first.isEmpty = true) {ys : List X} (hx : cXs caps.toList = some ys) : Res P B w0 I μ w k (execOp ρ o) (.fn f (ys.map (X.ev e))) h := by
  have r1 := ho.list hx
  have h1 : first = #[] := by simpa using hf
  have hm : (caps.toList.map ρ).toArray = caps.map ρ := by rw [← Array.toList_map, Array.toArray_toList]
  refine .pure hi (v := .func (.func f) #[] (caps.toList.map ρ).toArray) ?_ (.fn _ r1.1 r1.2)
  rw [hm]
  simp [execOp, hop, h1, Instr.makeFunc]
theorem Rp.asN (hv : Rp w I μ d v) {n : Nat} (hb : AE.asN d = some n) : v = .int .i64 n := by
  cases d <;> simp only [AE.asN] at hb <;> try (cases hb; done)
  rename_i kd m
  cases kd <;> simp only at hb <;> try (cases hb; done)
  split at hb
  · rename_i h0
    obtain rfl := Option.some.inj hb
    rw [hv.int_inv]
    congr 1
    omega
  · cases hb
theorem slS_ok (hi : Inv B w0 I μ h w) (ho : OpsOk w I μ e ρ) {o : Oper} {t : TypeId} {x : Operand} {lo hi2 : Option Operand} (hop : o.op = .slice t x lo hi2 none) (hu : P.underlying t = some .string) {y : X} (hx : cX x = some y) {ylo yhi : Option X} (hlo : cO lo = some ylo) (hhi : cO hi2 = some yhi)
    {s : ByteArray} (hs : y.ev e = .str s) {a b : Nat} (ha : bnd e 0 ylo = some a) (hb : bnd e s.size yhi = some b) (hab : a ≤ b) (hbs : b ≤ s.size) : Res P B w0 I μ w k (execOp ρ o) (.str (s.extract a b)) h := by
  have r1 := ho x y hx
  rw [hs] at r1
  have hv := r1.str_inv
  have qlo : (lo = none ∧ a = 0) ∨ ∃ xl, lo = some xl ∧ ρ xl = .int .i64 a := by
    cases lo with
    | none => simp only [cO, Option.some.injEq] at hlo; subst hlo; exact .inl ⟨rfl, by simpa [bnd] using ha.symm⟩
    | some xl =>
      simp only [cO, Option.bind_eq_some_iff] at hlo
      obtain ⟨yl, hyl, hq⟩ := hlo
      obtain rfl := Option.some.inj hq
      exact .inr ⟨xl, rfl, (ho xl yl hyl).asN ha⟩
  have qhi : (hi2 = none ∧ b = s.size) ∨ ∃ xl, hi2 = some xl ∧ ρ xl = .int .i64 b := by
    cases hi2 with
    | none => simp only [cO, Option.some.injEq] at hhi; subst hhi; exact .inl ⟨rfl, by simpa [bnd] using hb.symm⟩
    | some xl =>
      simp only [cO, Option.bind_eq_some_iff] at hhi
      obtain ⟨yl, hyl, hq⟩ := hhi
      obtain rfl := Option.some.inj hq
      exact .inr ⟨xl, rfl, (ho xl yl hyl).asN hb⟩
  refine .pure hi ?_ (.str _)
  have i1 : (a : Int) ≤ (b : Int) := by omega
  have i2 : (b : Int) ≤ (s.size : Int) := by omega
  rcases qlo with ⟨rfl, rfl⟩ | ⟨xl, rfl, hxl⟩ <;> rcases qhi with ⟨rfl, rfl⟩ | ⟨xh, rfl, hxh⟩ <;> simp [execOp, hop, hv, Instr.sliceAt, Instr.slice, Instr.sliceBounds, Instr.sliceBound, asIntOf, run_underlying hu, *]
theorem nilc_ok (hi : Inv B w0 I μ h w) (ho : OpsOk w I μ e ρ) {o : Oper} {x : Operand} (hop : o.op = .nilCheck x) {y : X} (hx : cX x = some y) (hy : (∃ cs o, y.ev e = .ipt cs o) ∨ (∃ l i o, y.ev e = .ptr l i o)) : Res P B w0 I μ w k (execOp ρ o) (y.ev e) h := by
  have r1 := ho x y hx
  have : ∃ ad, ρ x = .pointer (some ad) := by
    rcases hy with ⟨cs, oo, h1⟩ | ⟨l, i, oo, h1⟩
    · rw [h1] at r1
      generalize ρ x = v at r1 ⊢
      cases r1 with | im hm => cases hm; exact ⟨_, rfl⟩
    · rw [h1] at r1
      obtain ⟨p, b, _, _, hv⟩ := r1.ptr_inv
      exact ⟨_, hv⟩
  obtain ⟨ad, hv⟩ := this
  refine .pure hi ?_ r1
  simp [execOp, hop, hv]
end
end Go.Proofs.Ytpdamhhaepcffaa.AE
/-
  AE, part 10: operations that make memory.
-/
set_option linter.unusedVariables false
set_option linter.unusedSimpArgs false
namespace Go.Proofs.Ytpdamhhaepcffaa.AE
open Go Go.RowKit
section
variable {P : Program} {B : Nat} {w0 w w' : World} {I I' : Nat → Prop} {μ μ' : Mu} {h h' : Hp} {e : Env} {ρ : Operand → Value} {d d' : D} {v : Value} {k : Nat}
theorem zCells_inv {t : TypeId} {z : List D} (hz : zCells P t = some z) : ∃ i zv, P.info? t = some i ∧ i.zero = some zv ∧ cCells zv.cells.toList = some z ∧ z.length = i.size ∧ zv.cells.size = i.size := by
  unfold zCells at hz
  simp only [Option.bind_eq_some_iff] at hz
  obtain ⟨i, hi, zv, hzv, l, hl, he⟩ := hz
  split at he
  · rename_i hlen
    obtain rfl := Option.some.inj he
    refine ⟨i, zv, hi, hzv, hl, hlen, ?_⟩
    have := (cCells_im (w := default) (I := fun _ => True) hl).1.1
    have h2 : zv.cells.toList.length = zv.cells.size := by simp
    omega
  · cases he
theorem alloc_ok (hi : Inv B w0 I μ h w) (hk : μ k = none) {o : Oper} {t : TypeId} (hop : o.op = .alloc t) {z : List D} (hz : zCells P t = some z) : Res P B w0 I μ w k (execOp ρ o) (.ptr k 0 0) (hput h k (.var z true)) := by
  obtain ⟨i, zv, h1, h2, h3, h4, h5⟩ := zCells_inv hz
  obtain ⟨m1, m2, m3⟩ := cCells_im (w := w) (I := I) h3
  obtain ⟨n1, n2, n3, n4⟩ := hi.newVar hk t m1.rp m2
  refine ⟨_, _, _, I, _, ?_, .inl rfl, n4, n1, n2, n3, fun _ h => .inl h⟩
  simp [execOp, hop, Instr.alloc, zeroValue, typeInfo, h1, h2, Go.newVar, newRow]
theorem box_ok (hi : Inv B w0 I μ h w) (ho : OpsOk w I μ e ρ) (hk : μ k = none) {o : Oper} {t : TypeId} {x : Operand} (hop : o.op = .box t x) {y : X} (hx : cX x = some y) {cs : List D} (hc : (y.ev e).cells = some cs) : Res P B w0 I μ w k (execOp ρ o) (.ptr k 0 0) (hput h k (.var cs true)) := by
  obtain ⟨h1, h2⟩ := (ho x y hx).cells hc
  obtain ⟨n1, n2, n3, n4⟩ := hi.newVar hk t h1 h2
  refine ⟨_, _, _, I, _, ?_, .inl rfl, n4, n1, n2, n3, fun _ h => .inl h⟩
  simp [execOp, hop, Instr.box, Go.newVar, newRow]

/-! ### filling -/
theorem spl_of_get {α : Type} : ∀ (us : List α) (cs : List α) (off : Nat), off + us.length ≤ cs.length → us.foldl (fun (p : List α × Nat) u => (p.1.set (off + p.2) u, p.2 + 1)) (cs, 0) = (spl cs off us, us.length) := by
  have key : ∀ (us : List α) (cs : List α) (off n : Nat), off + n + us.length ≤ cs.length → us.foldl (fun (p : List α × Nat) u => (p.1.set (off + p.2) u, p.2 + 1)) (cs, n) = (spl cs (off + n) us, n + us.length) := by
    intro us
    induction us with
    | nil => intro cs off n _; simp [spl_nil]
    | cons u r ih =>
      intro cs off n hl
      simp only [List.foldl_cons]
      rw [ih _ off (n + 1) (by simp at hl ⊢; omega), ← spl_cons cs (off + n) u r (by simpa using hl)]
      simp only [List.length_cons, Nat.add_assoc, Nat.add_comm 1]
  intro us cs off hl
  have := key us cs off 0 (by simpa using hl)
  simpa using this
theorem fold_spl (us : Array Value) (cs : Array Value) (off : Nat) (hl : off + us.size ≤ cs.size) : (us.zipIdx.foldl (fun cs (c, j) => cs.setIfInBounds (off + j) c) cs) = (spl cs.toList off us.toList).toArray := by
  have key : ∀ (us : List Value) (cs : Array Value) (n : Nat), off + n + us.length ≤ cs.size → (us.zipIdx n).foldl (fun (cs : Array Value) (p : Value × Nat) => cs.setIfInBounds (off + p.2) p.1) cs = (spl cs.toList (off + n) us).toArray := by
    intro us
    induction us with
    | nil => intro cs n _; simp [spl_nil]
    | cons u r ih =>
      intro cs n hl
      simp only [List.zipIdx_cons, List.foldl_cons]
      rw [ih _ (n + 1) (by simp at hl ⊢; omega), Array.toList_setIfInBounds, ← Nat.add_assoc, spl_cons cs.toList (off + n) u r (by simpa using hl)]
  have h1 := key us.toList cs 0 (by simpa using hl)
  rw [← Array.foldl_toList, Array.toList_zipIdx]
  simpa using h1
theorem fill_ok {place : Nat → Option (Nat × Nat)} (ho : OpsOk w I μ e ρ) : ∀ (ps : List (Nat × Operand)) (qs : List (Nat × Nat × X)), cPs place ps = some qs → ∀ (z cs : List D) (zv : Array Value), RpL w I μ z zv.toList → fillD z (qs.map fun p => (p.1, p.2.1, p.2.2.ev e)) = some cs →
    ∃ us : List Value, Instr.fill place zv (ps.map fun p => (p.1, ρ p.2)) = some us.toArray ∧ RpL w I μ cs us
  | [], qs, hq, z, cs, zv, hz, hf => by
    obtain rfl := Option.some.inj hq
    simp only [List.map_nil, fillD, Option.some.injEq] at hf
    subst hf
    exact ⟨zv.toList, by simp [Instr.fill], hz⟩
  | (i, x) :: r, qs, hq, z, cs, zv, hz, hf => by
    simp only [cPs, Option.bind_eq_some_iff] at hq
    obtain ⟨pl, hpl, y, hy, q, hq2, he⟩ := hq
    obtain rfl := Option.some.inj he
    simp only [List.map_cons, fillD] at hf
    split at hf
    · rename_i ds hds
      split at hf
      · rename_i hc
        obtain ⟨hc1, hc2⟩ := hc
        obtain ⟨m1, m2⟩ := (ho x y hy).cells hds
        have hzl : z.length = zv.size := by simpa using hz.1
        have hsz : (ρ x).cells.size = pl.2 := by have h2 : (ρ x).cells.toList.length = (ρ x).cells.size := by simp
                                                 have := m1.1; omega
        have hfit : pl.1 + (ρ x).cells.size ≤ zv.size := by omega
        obtain ⟨us, hu1, hu2⟩ := fill_ok ho r q hq2 (spl z pl.1 ds) cs (spl zv.toList pl.1 (ρ x).cells.toList).toArray (by simpa using hz.spl m1 pl.1) hf
        refine ⟨us, ?_, hu2⟩
        simp only [List.map_cons, Instr.fill, hpl]
        rw [if_neg (by simp [hsz]; omega), fold_spl _ _ _ hfit]
        exact hu1
      · cases hf
    · cases hf
theorem build_ok (hi : Inv B w0 I μ h w) (ho : OpsOk w I μ e ρ) {o : Oper} {t : TypeId} {ps : Array (Nat × Operand)} (hop : o.op = .build t ps) {fs : Array Field} (hu : P.underlying t = some (.struct fs)) {z : List D} (hz : zCells P t = some z) {pl : List (Nat × Nat)}
    (hpl : fs.toList.mapM (fun f => (P.info? f.type).map fun i => (f.offset, i.size)) = some pl) {qs : List (Nat × Nat × X)} (hq : cPs (fun i => pl[i]?) ps.toList = some qs) {cs : List D} (hf : fillD z (qs.map fun p => (p.1, p.2.1, p.2.2.ev e)) = some cs) : Res P B w0 I μ w k (execOp ρ o) (.agg cs) h := by
  obtain ⟨i, zv, h1, h2, h3, h4, h5⟩ := zCells_inv hz
  obtain ⟨m1, m2, m3⟩ := cCells_im (w := w) (I := I) h3
  obtain ⟨us, hu1, hu2⟩ := fill_ok ho ps.toList qs hq z cs zv.cells m1.rp hf
  have hb : P.built t ((ps.map fun (i, x) => (i, ρ x)).toList) = some us.toArray := by
    unfold Program.built
    simp only [h1, hu, h2, hpl, Array.toList_map]
    simpa using hu1
  refine .pure hi (v := .agg us.toArray) ?_ (.agg us hu2.1 hu2.2)
  simp [execOp, hop, run_build w t _ _ hb]

/-! ### a slice literal -/
theorem rep_get {α : Type} (z : List α) (n i : Nat) (hi : i < n) : (List.replicate n z)[i]? = some z := by rw [List.getElem?_replicate, if_pos hi]
theorem zero_row (zs : Array Value) (n : Nat) (hz : 0 < zs.size) : ((Array.range (n * zs.size)).map fun i => zs[i % zs.size]!).toList = (List.replicate n zs.toList).flatten := by
  apply List.ext_getElem?
  intro j
  have hl : (List.replicate n zs.toList).flatten.length = n * zs.size := by
    rw [flat_length (sz := zs.size) (fun x hx => by rw [List.eq_of_mem_replicate hx]; simp)]; simp
  rcases Nat.lt_or_ge j (n * zs.size) with hj | hj
  · have hm : j % zs.size < zs.size := Nat.mod_lt _ hz
    have hd : j / zs.size < n := (Nat.div_lt_iff_lt_mul hz).2 hj
    have h2 := flat_get (sz := zs.size) (xs := List.replicate n zs.toList) (fun x hx => by rw [List.eq_of_mem_replicate hx]; simp) (rep_get zs.toList n _ hd) hm
    rw [Nat.mul_comm, Nat.div_add_mod] at h2
    rw [h2]
    simp [hj, getElem!_pos zs (j % zs.size) hm, List.getElem?_eq_getElem, hm]
  · rw [List.getElem?_eq_none (by simpa using hj), List.getElem?_eq_none (by omega)]
theorem fillR_ok {sz : Nat} (hsz : 0 < sz) : ∀ (ps : List (Nat × Value)) (ds : List D), ImL w I ds (ps.map (·.2)) → ∀ (xs ys : List (List D)) (zv : Array Value), (∀ x ∈ xs, x.length = sz) → (∀ x ∈ xs, ∀ d ∈ x, D.leaf d = true) → ImL w I xs.flatten zv.toList →
    fillR sz xs ((ps.map (·.1)).zip ds) = some ys → ∃ us : List Value, Instr.fill (fun i => some (i * sz, sz)) zv ps = some us.toArray ∧ ys.length = xs.length ∧ (∀ x ∈ ys, x.length = sz) ∧ (∀ x ∈ ys, ∀ d ∈ x, D.leaf d = true) ∧ ImL w I ys.flatten us
  | [], ds, hd, xs, ys, zv, h1, h2, h3, hf => by
    simp only [List.map_nil, List.zip_nil_left, fillR, Option.some.injEq] at hf
    subst hf
    exact ⟨zv.toList, by simp [Instr.fill], rfl, h1, h2, h3⟩
  | (i, v) :: r, [], hd, xs, ys, zv, h1, h2, h3, hf => absurd hd.1 (by simp)
  | (i, v) :: r, d :: ds, hd, xs, ys, zv, h1, h2, h3, hf => by
    obtain ⟨v', r', he, hm, hr⟩ := hd.inv
    simp only [List.map_cons, List.cons.injEq] at he
    obtain ⟨rfl, rfl⟩ := he
    simp only [List.map_cons, List.zip_cons_cons, fillR] at hf
    split at hf
    · rename_i cs hcs
      split at hf
      · rename_i hc
        obtain ⟨hc1, hc2, hc3⟩ := hc
        obtain ⟨m1, m2⟩ := Rp.cells (μ := fun _ => none) (.im hm) hcs
        have hlen : xs.flatten.length = zv.size := by simpa using h3.1
        have hfl := flat_length h1
        have hfit : i * sz + sz ≤ xs.length * sz := by rw [← Nat.succ_mul]; exact Nat.mul_le_mul_right _ hc2
        have hvs : v.cells.size = sz := by
          have h2 : v.cells.toList.length = v.cells.size := by simp
          have := m1.1
          omega
        have hx : xs[i]? = some xs[i] := List.getElem?_eq_getElem hc2
        have hxl : xs[i].length = sz := h1 _ (List.getElem_mem hc2)
        have hset : xs.set i (spl xs[i] 0 cs) = xs.set i cs := by
          congr 1
          unfold spl
          rw [List.take_zero, Nat.zero_add, List.drop_eq_nil_of_le (by omega)]
          simp
        have hflat := flat_set (o := 0) (ds := cs) h1 hx (by omega)
        rw [hset, Nat.add_zero] at hflat
        obtain ⟨us, hu1, hu2, hu3, hu4, hu5⟩ := fillR_ok hsz r ds hr (xs.set i cs) ys (spl zv.toList (i * sz) v.cells.toList).toArray (fun x hx => by
            rcases List.mem_or_eq_of_mem_set hx with hx | rfl
            · exact h1 x hx
            · exact hc1) (fun x hx d hd => by
            rcases List.mem_or_eq_of_mem_set hx with hx | rfl
            · exact h2 x hx d hd
            · exact m2 d hd) (by rw [hflat]; simpa using h3.spl (m1.imF_of hc3) (i * sz)) hf
        refine ⟨us, ?_, by rw [hu2, List.length_set], hu3, hu4, hu5⟩
        simp only [Instr.fill]
        rw [if_neg (by simp [hvs]; omega), fold_spl _ _ _ (by omega)]
        exact hu1
      · cases hf
    · cases hf
theorem cQs_map : ∀ {ps : List (Nat × Operand)} {qs : List (Nat × X)}, cQs ps = some qs → OpsOk w I μ e ρ → qs.map (·.1) = ps.map (·.1) ∧ RpL w I μ (qs.map fun p => p.2.ev e) (ps.map fun p => ρ p.2)
  | [], qs, hq, ho => by
    obtain rfl := Option.some.inj hq
    exact ⟨rfl, .nil⟩
  | (i, x) :: r, qs, hq, ho => by
    simp only [cQs, Option.bind_eq_some_iff] at hq
    obtain ⟨y, hy, q, hq2, he⟩ := hq
    obtain rfl := Option.some.inj he
    obtain ⟨h1, h2⟩ := cQs_map hq2 ho
    exact ⟨by simp [h1], .cons (ho x y hy) h2⟩
/-- A new row. -/
theorem Inv.newRow (hi : Inv B w0 I μ h w) (hk : μ k = none) {ety sz n : Nat} {xs : List (List D)} {us : List Value} (hsz : 0 < sz) (h1 : ∀ x ∈ xs, x.length = sz) (h2 : ∀ x ∈ xs, ∀ d ∈ x, D.leaf d = true) (h3 : ImL w I xs.flatten us) (hn : xs.length = n) (hm : n ≤ maxLen) :
    Inv B w0 I (mput μ k ⟨some w.heap.size, sz, .slice (some ⟨w.heap.size, 0, none⟩) n n⟩) (hput h k (.row ety sz xs true)) (w.alloc (.cells us.toArray ety)) ∧ Go1 I I μ (mput μ k ⟨some w.heap.size, sz, .slice (some ⟨w.heap.size, 0, none⟩) n n⟩) w (w.alloc (.cells us.toArray ety)) ∧
      (∀ l, μ l = none → l ≠ k → mput μ k ⟨some w.heap.size, sz, .slice (some ⟨w.heap.size, 0, none⟩) n n⟩ l = none) ∧ Rp (w.alloc (.cells us.toArray ety)) I (mput μ k ⟨some w.heap.size, sz, .slice (some ⟨w.heap.size, 0, none⟩) n n⟩) (.osl k) (.slice (some ⟨w.heap.size, 0, none⟩) n n) := by
  have g := go_new (k := k) hi hk ⟨some w.heap.size, sz, .slice (some ⟨w.heap.size, 0, none⟩) n n⟩ (.cells us.toArray ety)
  have hlen : us.toArray.size = n * sz := by
    have := h3.1; rw [flat_length h1, hn] at this; simpa using this.symm
  have hown := World.ownsRow_lit (e := ety) (base := B) (size := sz) w us.toArray n hi.hB hm hlen
  obtain ⟨k1, k2, k3⟩ := hi.new hk ⟨some w.heap.size, sz, .slice (some ⟨w.heap.size, 0, none⟩) n n⟩ (.row ety sz xs true) (.cells us.toArray ety) (fun b hb => (Option.some.inj hb).symm)
    ⟨_, us, mput_same _ _ _, rfl, hsz, rfl, by rw [hn]; simpa using hown, h1, h2, h3.go g, fun _ b hb hI => by obtain rfl := Option.some.inj hb; have := hi.lt _ hI; omega, fun hf => by cases hf⟩
  exact ⟨k1, k2, k3, .osl (mput_same _ _ _) rfl⟩
theorem bsl_ok (hi : Inv B w0 I μ h w) (ho : OpsOk w I μ e ρ) (hk : μ k = none) {o : Oper} {t et : TypeId} {n : Nat} {ps : Array (Nat × Operand)} (hop : o.op = .buildSlice t n ps) (hu : P.underlying t = some (.slice et)) {z : List D} (hz : zCells P et = some z) (hn : n * z.length ≤ 16777216) (hz0 : z.length ≠ 0)
    {qs : List (Nat × X)} (hq : cQs ps.toList = some qs) {ds : List D} (hf : frzL (fun h d => frz 9 h d) h (qs.map fun p => p.2.ev e) = some (ds, h')) {xs : List (List D)} (hr : fillR z.length (List.replicate n z) ((qs.map (·.1)).zip ds) = some xs) :
    Res P B w0 I μ w k (execOp ρ o) (.osl k) (hput h' k (.row et z.length xs true)) := by
  obtain ⟨i, zv, h1, h2, h3, h4, h5⟩ := zCells_inv hz
  obtain ⟨q1, q2⟩ := cQs_map (w := w) (I := I) (μ := μ) (e := e) (ρ := ρ) hq ho
  obtain ⟨I1, g1, i1, m1, n1, l1⟩ := frzL_ok (fun I h h' d d' v => frz_ok 9 I h h' d d' v) _ I h h' ds _ hf hi q2
  obtain ⟨z1, z2, z3⟩ := cCells_im (w := w) (I := I1) h3
  have hzv : zv.cells.size = z.length := by omega
  have hrep : ImL w I1 (List.replicate n z).flatten ((Array.range (n * zv.cells.size)).map fun i => zv.cells[i % zv.cells.size]!).toList := by
    rw [zero_row zv.cells n (by omega)]
    have : ∀ n, ImL w I1 (List.replicate n z).flatten (List.replicate n zv.cells.toList).flatten := by
      intro n
      induction n with
      | zero => simp; exact .nil
      | succ n ih => simp only [List.replicate_succ, List.flatten_cons]; exact z1.app ih
    exact this n
  have hps : (ps.map fun (i, x) => (i, ρ x)).toList = ps.toList.map fun p => (p.1, ρ p.2) := by simp
  have hq1 : (qs.map (·.1)) = ((ps.toList.map fun p => (p.1, ρ p.2)).map (·.1)) := by rw [q1]; simp
  rw [hq1] at hr
  obtain ⟨us, hu1, hu2, hu3, hu4, hu5⟩ := fillR_ok (w := w) (I := I1) (sz := z.length) (by omega) (ps.toList.map fun p => (p.1, ρ p.2)) ds (by rw [List.map_map]; exact m1) (List.replicate n z) xs _ (fun x hx => by rw [List.eq_of_mem_replicate hx]) (fun x hx d hd => by rw [List.eq_of_mem_replicate hx] at hd; exact z2 d hd) hrep hr
  have hxl : xs.length = n := by rw [hu2]; simp
  obtain ⟨k1, k2, k3, k4⟩ := i1.newRow (k := k) (ety := et) hk (by omega) hu3 hu4 hu5 hxl (by unfold maxLen; have := Nat.le_mul_of_pos_right n (show 0 < z.length by omega); omega)
  refine ⟨_, _, _, I1, _, ?_, .inl rfl, k4, k1, g1.trans k2, k3, fun b hb => (n1.1 b hb).imp id (fun ho => (ho.ge hi).2.2)⟩
  have hsize : (sizeOf et).run P w = .ok z.length w := szT_run (by unfold szT; rw [h1]; simp; omega)
  have hnz : ¬ 16777216 < n * z.length := by omega
  rw [hzv] at hu1
  by_cases hn0 : n * z.length = 0
  · have : n = 0 := by rcases Nat.mul_eq_zero.1 hn0 with h | h <;> omega
    subst this
    simp only [Nat.zero_mul, Array.range_zero', Array.map_empty] at hu1
    simp [execOp, hop, Instr.buildSlice, run_underlying hu, hsize, hps, Go.newRow, hu1, Array.range_zero']
  · simp [execOp, hop, Instr.buildSlice, run_underlying hu, hsize, hnz, hn0, zeroValue, typeInfo, h1, h2, hps, Go.newRow, hzv, hu1]
end
end Go.Proofs.Ytpdamhhaepcffaa.AE
/-
  AE, part 11: append, make, maps.
-/
set_option linter.unusedVariables false
set_option linter.unusedSimpArgs false
namespace Go.Proofs.Ytpdamhhaepcffaa.AE
open Go Go.RowKit
section
variable {P : Program} {B : Nat} {w0 w w' : World} {I I' : Nat → Prop} {μ μ' : Mu} {h h' : Hp} {e : Env} {ρ : Operand → Value} {d d' : D} {v : Value} {k : Nat}
/-- The cells of a slice that is read. -/
theorem elems_cells (hi : Inv B w0 I μ h w) (hv : Rp w I μ d v) {sz : Nat} (hsz : 0 < sz) {xs : List (List D)} (he : elems h d = some xs) (hl : ∀ x ∈ xs, x.length = sz) :
    ∃ A c us, v = .slice A xs.length c ∧ ImL w I xs.flatten us ∧ (∀ x ∈ xs, ∀ d ∈ x, D.leaf d = true) ∧ (A = none → xs = []) ∧ (∀ ad, A = some ad → ∀ (j : Nat) (u : Value), us[j]? = some u → w.cell? (ad.add j) = some u) := by
  cases d <;> simp only [elems] at he <;> try (cases he; done)
  · obtain rfl := Option.some.inj he
    cases hv with | im hm => cases hm; exact ⟨none, 0, [], rfl, .nil, by simp, fun _ => rfl, fun ad h => by cases h⟩
  · rename_i xs0
    obtain rfl : xs = xs0 := (Option.some.inj he).symm
    cases hv with | im hm =>
    cases hm with
    | isl f hc hlen hlf hcell hr =>
      rename_i A c sz'
      by_cases hne : xs = []
      · subst hne
        exact ⟨A, c, [], rfl, .nil, by simp, fun _ => rfl, fun ad _ j u hu => by simp at hu⟩
      · have hss : sz' = sz := by
          obtain ⟨x, hx⟩ := List.exists_mem_of_ne_nil xs hne
          rw [← hlen x hx, hl x hx]
        subst hss
        obtain ⟨ad, rfl, hI, hcl⟩ := hcell hne
        have hfl := flat_length hlen
        have key : ∀ j d, xs.flatten[j]? = some d → ∃ x, xs[j / sz']? = some x ∧ x[j % sz']? = some d := by
          intro j d hd
          have hj : j < xs.length * sz' := by have := (List.getElem?_eq_some_iff.1 hd).1; omega
          have hq : j / sz' < xs.length := (Nat.div_lt_iff_lt_mul hsz).2 hj
          have hx : xs[j / sz']? = some xs[j / sz'] := List.getElem?_eq_getElem hq
          have h2 := flat_get hlen hx (Nat.mod_lt j hsz)
          rw [Nat.mul_comm, Nat.div_add_mod, hd] at h2
          exact ⟨_, hx, h2.symm⟩
        refine ⟨some ad, c, (List.range (xs.length * sz')).map fun j => f (j / sz') (j % sz'), rfl, ⟨by simp [hfl], fun j d v hd hv => ?_⟩, hlf, (fun h => by cases h), fun ad' ha j u hu => ?_⟩
        · obtain ⟨x, hx, hx2⟩ := key j d hd
          have hj : j < xs.length * sz' := by have := (List.getElem?_eq_some_iff.1 hd).1; omega
          rw [List.getElem?_map, List.getElem?_range hj] at hv
          obtain rfl := Option.some.inj hv
          exact hr _ _ x d hx hx2
        · obtain rfl := Option.some.inj ha
          rw [List.getElem?_map] at hu
          obtain ⟨j', hj', rfl⟩ := Option.map_eq_some_iff.1 hu
          have hlt : j < xs.length * sz' := by have := (List.getElem?_eq_some_iff.1 hj').1; simpa using this
          rw [List.getElem?_range hlt] at hj'
          obtain rfl := Option.some.inj hj'
          have hd : xs.flatten[j]? = some xs.flatten[j] := List.getElem?_eq_getElem (by omega)
          obtain ⟨x, hx, hx2⟩ := key j _ hd
          have := hcl _ _ x _ hx hx2
          rw [Nat.mul_comm, Nat.div_add_mod] at this
          exact this
  · rename_i l
    have hoo := hi.ob l
    cases hl2 : h l with
    | row ety sz' ys own =>
      rw [hl2] at he hoo
      obtain rfl := Option.some.inj he
      obtain ⟨p, cells, k1, k2, k3, k4, k5, k6, k7, k8, k9, k10⟩ := hoo
      cases hv with
      | im hm => cases hm
      | osl hp hv =>
        rw [k1] at hp
        obtain rfl := Option.some.inj hp
        rcases k5.2 with ⟨hn, hn0⟩ | ⟨g, cap, cur, hvv, _, hg, hle, _⟩
        · rw [hv] at hn
          injection hn with e1 e2 e3
          subst e1; subst e2; subst e3
          have : ys = [] := List.eq_nil_of_length_eq_zero hn0
          subst this
          exact ⟨none, 0, [], rfl, .nil, by simp, fun _ => rfl, fun ad h => by cases h⟩
        · rw [hv] at hvv
          injection hvv with e1 e2 e3
          subst e1; subst e2; subst e3
          refine ⟨_, _, cells, rfl, k8, k7, (fun h => by cases h), fun ad ha j u hu => ?_⟩
          obtain rfl := Option.some.inj ha
          rw [Addr.add_mid, Nat.zero_add]
          exact row_cell k5 (by rw [hv]; rfl) hu
    | _ => rw [hl2] at he; cases he
theorem run_append_nil_c (t ty et : TypeId) (i : TypeInfo) (ht : P.underlying t = some (.slice et)) (hi : P.info? et = some i) {size n : Nat} {v : Value} {xs : List Value} (hown : w.ownsRow B et size v n xs) (c : Nat) : (Builtin.append_ #[t, t] ty #[v, .slice none 0 c]).run P w = .ok v w := by
  rcases hown.2 with ⟨rfl, rfl⟩ | ⟨g, cap, cur, rfl, _, _, hnc, _⟩
  · simp [Builtin.append_, run_underlying ht, sizeOf, typeInfo, hi, Builtin.lenOf, Builtin.firstCells]
  · simp [Builtin.append_, run_underlying ht, sizeOf, typeInfo, hi, Builtin.lenOf, Builtin.firstCells, hnc, storeCells]
/-- append onto what is owned (or nil). -/
theorem app_core (hi : Inv B w0 I μ h w) (hk : μ k = none) {t ty et : TypeId} (hu : P.underlying t = some (.slice et)) {i : TypeInfo} (hinf : P.info? et = some i) {z : List D} (hz : zCells P et = some z) (hs0 : i.size ≠ 0) (hby : i.bytes ≤ 2048)
    {v : Value} {xs : List (List D)} {cells : List Value} (hown : w.ownsRow B et i.size v xs.length cells) (x1 : ∀ x ∈ xs, x.length = i.size) (x2 : ∀ x ∈ xs, ∀ d ∈ x, D.leaf d = true) (x3 : ImL w I xs.flatten cells) (x4 : ∀ b, v.ownBlock = some b → ¬ I b)
    {A : Option Addr} {c : Nat} {ys : List (List D)} {us : List Value} (y1 : ∀ x ∈ ys, x.length = i.size) (y2 : ∀ x ∈ ys, ∀ d ∈ x, D.leaf d = true) (y3 : ImL w I ys.flatten us) (y4 : A = none → ys = []) (y5 : ∀ ad, A = some ad → ∀ (j : Nat) (u : Value), us[j]? = some u → w.cell? (ad.add j) = some u)
    (hlim : LimA i.bytes (xs.length + ys.length)) (h1 : Hp) (hh : ∀ j, j ≠ k → h1 j = h j ∨ h1 j = .no) (hdis : ∀ j p b, j ≠ k → h1 j = h j → (h j).isOwn = true → μ j = some p → p.b = some b → v.ownBlock ≠ some b) :
    ∃ v' w', (Builtin.append_ #[t, t] ty #[v, .slice A ys.length c]).run P w = .ok v' w' ∧ Rp w' I (mput μ k ⟨v'.ownBlock, i.size, v'⟩) (.osl k) v' ∧ Inv B w0 I (mput μ k ⟨v'.ownBlock, i.size, v'⟩) (hput h1 k (.row et i.size (xs ++ ys) true)) w' ∧ Go1 I I μ (mput μ k ⟨v'.ownBlock, i.size, v'⟩) w w' := by
  obtain ⟨i', zv, q1, q2, q3, q4, q5⟩ := zCells_inv hz
  rw [hinf] at q1
  obtain rfl := Option.some.inj q1
  have hus : us.length = ys.length * i.size := by rw [← y3.1, flat_length y1]
  have hrun : ∃ v' w', (Builtin.append_ #[t, t] ty #[v, .slice A ys.length c]).run P w = .ok v' w' ∧ w'.ownsRow B et i.size v' (xs.length + ys.length) (cells ++ us) ∧ w.grownBy w' v.ownBlock ∧ (v'.ownBlock = v.ownBlock ∨ v'.ownBlock = some w.heap.size) := by
    cases A with
    | none =>
      obtain rfl := y4 rfl
      have : us = [] := List.eq_nil_of_length_eq_zero (by simpa using hus)
      subst this
      exact ⟨v, w, run_append_nil_c t ty et i hu hinf hown c, by simpa using hown, World.grownBy.refl w _, .inl rfl⟩
    | some ad =>
      have hone : ∀ u ∈ us, u.oneCell' = true := by
        intro u hu2
        obtain ⟨j, hj⟩ := List.mem_iff_getElem?.1 hu2
        have hjl : j < ys.flatten.length := by have := (List.getElem?_eq_some_iff.1 hj).1; rw [y3.1]; exact this
        obtain ⟨x, hx, hd⟩ := List.mem_flatten.1 (List.getElem_mem hjl)
        exact (y3.2 j _ u (List.getElem?_eq_getElem hjl) hj).one (y2 x hx _ hd)
      have hb : (xs.length + ys.length) * i.bytes ≤ 140737488355328 := by
        rcases hlim with hlim | ⟨hby, hlim⟩
        · calc (xs.length + ys.length) * i.bytes ≤ 68719476736 * 2048 := Nat.mul_le_mul hlim hby
            _ = 140737488355328 := by decide
        · calc (xs.length + ys.length) * i.bytes ≤ 2199023255552 * 64 := Nat.mul_le_mul hlim hby
            _ = 140737488355328 := by decide
      obtain ⟨v', w', r1, r2, r3, _, r5⟩ := run_append_own_at (P := P) w B t ty et i zv i.size i.bytes hu hinf q2 rfl rfl q5 (by omega) v xs.length cells hown ad ys.length c us hus (y5 ad rfl) hone (by unfold maxLen; unfold LimA Lim at hlim; omega) hb hi.hB
      exact ⟨v', w', r1, r2, r3, r5⟩
  obtain ⟨v', w', r1, r2, r3, r5⟩ := hrun
  have hvlt := hown.lt
  have g : Go1 I I μ (mput μ k ⟨v'.ownBlock, i.size, v'⟩) w w' := ⟨fun _ h => h, fun b hb => r3.block b (hi.lt b hb) (fun e => x4 b e.symm hb), mput_go hk _⟩
  have hbel : Below B w w' := (Below.refl B w).grown r3 hi.hB (fun b hb => (hvlt b hb).1)
  have hform : ∃ A n c, v' = .slice A n c := by
    rcases r2.2 with ⟨rfl, _⟩ | ⟨g, cap, cur, rfl, _⟩
    · exact ⟨_, _, _, rfl⟩
    · exact ⟨_, _, _, rfl⟩
  refine ⟨v', w', r1, ?_, ?_, g⟩
  · obtain ⟨A', n', c', rfl⟩ := hform
    exact .osl (mput_same _ _ _) rfl
  · refine hi.put g hbel (fun b hb => Nat.lt_of_lt_of_le (hi.lt b hb) hbel.size) (l := k) (o := .row et i.size (xs ++ ys) true) _ (fun j hj => ?_) (hput_same _ _ _) ?_ ?_
    · rw [hput_ne _ _ hj]; exact hh j hj
    · refine ⟨_, cells ++ us, mput_same _ _ _, rfl, by omega, rfl, by rw [List.length_append]; exact r2, fun x hx => ?_, fun x hx d hd => ?_, ?_, fun _ b hb hI => ?_, fun hf => by cases hf⟩
      · rcases List.mem_append.1 hx with hx | hx
        · exact x1 x hx
        · exact y1 x hx
      · rcases List.mem_append.1 hx with hx | hx
        · exact x2 x hx d hd
        · exact y2 x hx d hd
      · rw [List.flatten_append]
        exact (x3.go g).app (y3.go g)
      · rcases r5 with r5 | r5
        · exact x4 b (by rw [← r5]; exact hb) hI
        · have hb2 : v'.ownBlock = some b := hb
          rw [r5] at hb2
          obtain rfl := Option.some.inj hb2
          have := hi.lt _ hI
          omega
    · intro j q b hj hj2 hoj hq hb
      rw [hput_ne _ _ hj] at hj2
      obtain ⟨o1, o2, o3⟩ := (hi.ob j).lt hq hb hoj
      have hne := hdis j q b hj hj2 hoj hq hb
      refine ⟨r3.block b o1 (fun e => hne e.symm), o2, fun _ p' hp' => ?_⟩
      rw [mput_same] at hp'
      obtain rfl := Option.some.inj hp'
      intro hb2
      have hb3 : v'.ownBlock = some b := hb2
      rcases r5 with r5 | r5
      · rw [r5] at hb3; exact hne hb3
      · rw [r5] at hb3; have := Option.some.inj hb3; omega
theorem app_ok (hi : Inv B w0 I μ h w) (ho : OpsOk w I μ e ρ) (hk : μ k = none) {o : Oper} {c : Go.Call} (hop : o.op = .call c) (hc : c.callee = .builtin .append) {x x2 : Operand} {t et : TypeId} (ha : c.args.toList = [x, x2]) (hat : c.argTypes.toList = [t, t]) (hu : P.underlying t = some (.slice et)) {i : TypeInfo} (hinf : P.info? et = some i)
    {z : List D} (hz : zCells P et = some z) (hs0 : i.size ≠ 0) (hby : i.bytes ≤ 2048) {y y2 : X} (hx : cX x = some y) (hx2 : cX x2 = some y2) {ys : List (List D)} (hys : elems h (y2.ev e) = some ys) (hyl : ∀ y ∈ ys, y.length = i.size)
    (hev : (y.ev e = .nls ∧ LimA i.bytes ys.length ∧ h' = hput h k (.row et i.size ys true)) ∨ (∃ l xs, y.ev e = .osl l ∧ h l = .row et i.size xs true ∧ LimA i.bytes (xs.length + ys.length) ∧ h' = hput (hput h l .no) k (.row et i.size (xs ++ ys) true))) : Res P B w0 I μ w k (execOp ρ o) (.osl k) h' := by
  have h1 : c.args = #[x, x2] := by rw [← Array.toArray_toList (xs := c.args), ha]
  have h2 : c.argTypes = #[t, t] := by rw [← Array.toArray_toList (xs := c.argTypes), hat]
  have r1 := ho x y hx
  obtain ⟨A, cc, us, hv2, y3, y2', y4, y5⟩ := elems_cells hi (ho x2 y2 hx2) (show 0 < i.size by omega) hys hyl
  have fin : ∀ v' w' μ', (Builtin.append_ #[t, t] o.type #[ρ x, .slice A ys.length cc]).run P w = .ok v' w' → Rp w' I μ' (.osl k) v' → Inv B w0 I μ' h' w' → Go1 I I μ μ' w w' → (∀ l, μ l = none → l ≠ k → μ' l = none) → Res P B w0 I μ w k (execOp ρ o) (.osl k) h' := by
    intro v' w' μ' e1 e2 e3 e4 e5
    refine ⟨_, v', w', I, μ', ?_, .inl rfl, e2, e3, e4, e5, fun _ h => .inl h⟩
    simp [execOp, hop, resolve, hc, h1, h2, invoke, builtin, hv2, e1]
  rcases hev with ⟨hn, hlim, rfl⟩ | ⟨l, xs, hl, hob, hlim, rfl⟩
  · rw [hn] at r1
    have hv : ρ x = .slice none 0 0 := by
      generalize ρ x = v at r1
      cases r1 with | im hm => cases hm; rfl
    obtain ⟨v', w', e1, e2, e3, e4⟩ := app_core (P := P) (ty := o.type) (v := ρ x) (xs := []) (cells := []) hi hk hu hinf hz hs0 hby (by rw [hv]; exact World.ownsRow_nil w B et i.size) (by simp) (by simp) .nil (fun b hb => by rw [hv] at hb; simp [Value.ownBlock] at hb) (A := A) (c := cc) hyl y2' y3 y4 y5 (by simpa using hlim) h (fun j _ => .inl rfl) (fun j p b _ _ _ _ _ => by rw [hv]; simp [Value.ownBlock])
    exact fin v' w' _ e1 e2 (by simpa using e3) e4 (fun l hl hne => by rw [mput_ne _ _ hne]; exact hl)
  · rw [hl] at r1
    have hoo := hi.ob l
    rw [hob] at hoo
    obtain ⟨p, cells, k1, k2, k3, k4, k5, k6, k7, k8, k9, k10⟩ := hoo
    have hv : ρ x = p.val := by
      generalize ρ x = v at r1
      cases r1 with
      | im hm => cases hm
      | osl hp hv => rw [k1] at hp; obtain rfl := Option.some.inj hp; exact hv.symm
    obtain ⟨v', w', e1, e2, e3, e4⟩ := app_core (P := P) (ty := o.type) (v := ρ x) hi hk hu hinf hz hs0 hby (by rw [hv]; exact k5) k6 k7 k8 (fun b hb => k9 rfl b (by rw [k4, ← hv]; exact hb)) (A := A) (c := cc) hyl y2' y3 y4 y5 hlim (hput h l .no)
      (fun j _ => by by_cases hj : j = l
                     · subst hj; exact .inr (hput_same _ _ _)
                     · exact .inl (hput_ne _ _ hj))
      (fun j q b hj hj2 hoj hq hb => by
        have hjl : j ≠ l := by
          rintro rfl
          rw [hput_same] at hj2
          rw [← hj2] at hoj
          cases hoj
        intro hvb
        exact hi.dis j l q p b hjl hoj (by rw [hob]; rfl) hq k1 hb (by rw [k4, ← hv]; exact hvb))
    exact fin v' w' _ e1 e2 e3 e4 (fun l hl hne => by rw [mput_ne _ _ hne]; exact hl)
theorem mks_ok (hi : Inv B w0 I μ h w) (ho : OpsOk w I μ e ρ) (hk : μ k = none) {o : Oper} {t et : TypeId} {x x2 : Operand} (hop : o.op = .makeSlice t x x2) (hu : P.underlying t = some (.slice et)) {i : TypeInfo} (hinf : P.info? et = some i) {z : List D} (hz : zCells P et = some z) (hs0 : i.size ≠ 0) (hby : i.bytes ≤ 2048)
    {y y2 : X} (hx : cX x = some y) (hx2 : cX x2 = some y2) {n : Nat} (hn : asN (y.ev e) = some n) (hn2 : asN (y2.ev e) = some n) (hlim : n ≤ Lim) : Res P B w0 I μ w k (execOp ρ o) (.osl k) (hput h k (.row et i.size (List.replicate n z) true)) := by
  obtain ⟨i', zv, q1, q2, q3, q4, q5⟩ := zCells_inv hz
  rw [hinf] at q1
  obtain rfl := Option.some.inj q1
  obtain ⟨m1, m2, m3⟩ := cCells_im (w := w) (I := I) q3
  have hrep : ImL w I (List.replicate n z).flatten (madeCells zv.cells (n * i.size)).toList := by
    unfold madeCells
    rw [← q5, zero_row zv.cells n (by omega)]
    have : ∀ n, ImL w I (List.replicate n z).flatten (List.replicate n zv.cells.toList).flatten := by
      intro n
      induction n with
      | zero => simp; exact .nil
      | succ n ih => simp only [List.replicate_succ, List.flatten_cons]; exact m1.app ih
    exact this n
  obtain ⟨k1, k2, k3, k4⟩ := hi.newRow (k := k) (ety := et) hk (show 0 < i.size by omega) (fun x hx => by rw [List.eq_of_mem_replicate hx]; exact q4) (fun x hx d hd => by rw [List.eq_of_mem_replicate hx] at hd; exact m2 d hd) hrep (List.length_replicate (n := n)) (by have hlim2 : n ≤ 68719476736 := hlim; unfold maxLen; omega)
  refine ⟨_, _, _, I, _, ?_, .inl rfl, k4, k1, k2, k3, fun _ h => .inl h⟩
  have hlim2 : n ≤ 68719476736 := hlim
  have hb : (i.bytes : Int) * (n : Int) ≤ 281474976710656 := by
    have : i.bytes * n ≤ 140737488355328 := by
      calc i.bytes * n ≤ 2048 * 68719476736 := Nat.mul_le_mul hby hlim
        _ = 140737488355328 := by decide
    have h2 : ((i.bytes * n : Nat) : Int) ≤ 281474976710656 := by omega
    rwa [Int.natCast_mul] at h2
  have := run_make (P := P) w t et i zv hu hinf q2 .i64 .i64 (n : Int) (n : Int) (by omega) (by omega) hb (by omega)
  simp only [Int.toNat_natCast] at this
  simp [execOp, hop, (ho x y hx).asN hn, (ho x2 y2 hx2).asN hn2, this]

/-! ### maps -/
theorem mkmap_ok (hi : Inv B w0 I μ h w) (hk : μ k = none) {o : Oper} {t : TypeId} (hop : o.op = .makeMap t none) : Res P B w0 I μ w k (execOp ρ o) (.mpr k) (hput h k (.mp [])) := by
  obtain ⟨k1, k2, k3⟩ := hi.new hk ⟨some w.heap.size, 0, .nilFunc⟩ (.mp []) (.map #[] 0) (fun b hb => (Option.some.inj hb).symm)
    ⟨_, w.heap.size, [], 0, mput_same _ _ _, rfl, hi.hB, heap_alloc_new w _, ⟨rfl, fun j k d en h => by simp at h⟩, fun hI => by have := hi.lt _ hI; omega⟩
  refine ⟨_, _, _, I, _, ?_, .inl rfl, .mpr (mput_same _ _ _) rfl, k1, k2, k3, fun _ h => .inl h⟩
  simp [execOp, hop, Instr.makeMap]
theorem MpOk.tail {k : ByteArray} {d : D} {es : List (ByteArray × D)} {en : MapEntry} {ens : List MapEntry} (hm : MpOk w I ((k, d) :: es) (en :: ens)) : en.key = .string k ∧ Im w I d en.val ∧ MpOk w I es ens :=
  ⟨(hm.2 0 k d en rfl rfl).1, (hm.2 0 k d en rfl rfl).2, by simpa using hm.1, fun j k d en a b => hm.2 (j + 1) k d en (by simpa using a) (by simpa using b)⟩
theorem find_ok (s : ByteArray) : ∀ (es : List (ByteArray × D)) (ens : List MapEntry) (i : Nat), MpOk w I es ens →
    (∃ v d j k', Instr.findNow .string (.string s) ens i = some (some (i + j, v)) ∧ mfind s es = some d ∧ Im w I d v ∧ es[j]? = some (k', d) ∧ (s == k') = true ∧ ∀ y, mset s y es = es.set j (s, y)) ∨
    (Instr.findNow .string (.string s) ens i = some none ∧ mfind s es = none ∧ ∀ y, mset s y es = es ++ [(s, y)])
  | [], ens, i, hm => by
    have : ens = [] := List.eq_nil_of_length_eq_zero (by simpa using hm.1.symm)
    subst this
    exact .inr ⟨rfl, rfl, fun _ => rfl⟩
  | (k, d) :: es, [], i, hm => absurd hm.1 (by simp)
  | (k, d) :: es, en :: ens, i, hm => by
    obtain ⟨h1, h2, h3⟩ := hm.tail
    cases hk : (s == k) with
    | true => exact .inl ⟨en.val, d, 0, k, by simp [Instr.findNow, h1, Instr.sameNow, hk], by simp [mfind, hk], h2, rfl, hk, fun y => by simp [mset, hk]⟩
    | false =>
      rcases find_ok s es ens (i + 1) h3 with ⟨v, d', j, k', a1, a2, a3, a4, a5, a6⟩ | ⟨a1, a2, a3⟩
      · exact .inl ⟨v, d', j + 1, k', by simp [Instr.findNow, h1, Instr.sameNow, hk, a1, Nat.add_assoc, Nat.add_comm 1], by simp [mfind, hk, a2], a3, by simpa using a4, a5, fun y => by simp [mset, hk, a6 y]⟩
      · exact .inr ⟨by simp [Instr.findNow, h1, Instr.sameNow, hk, a1], by simp [mfind, hk, a2], fun y => by simp [mset, hk, a3 y]⟩
theorem run_getObj_map {r : Nat} {ens : Array MapEntry} {clk : Nat} (hr : w.heap[r]? = some (.map ens clk)) : (getObj r).run P w = .ok (.map ens clk) w := by
  simp only [getObj, Sem.run, hr]
theorem checkKey_str {kt : TypeId} (hk : P.underlying kt = some .string) (b : Bool) (s : ByteArray) : (Instr.checkKey b 10000 kt (.string s)).run P w = .ok () w := by
  rw [show (10000 : Nat) = 9999 + 1 from rfl, Instr.checkKey]
  simp [run_underlying hk]
theorem Rp.mpr_inv {l : Nat} (hv : Rp w I μ (.mpr l) v) : ∃ p b, μ l = some p ∧ p.b = some b ∧ v = .map (some b) := by
  cases hv with
  | im hm => cases hm
  | mpr h1 h2 => exact ⟨_, _, h1, h2, rfl⟩
theorem mget_ok (hi : Inv B w0 I μ h w) (ho : OpsOk w I μ e ρ) {o : Oper} {t kt et : TypeId} {x x2 : Operand} (hop : o.op = .lookup t x x2 false) (hu : P.underlying t = some (.map kt et)) (hkt : P.underlying kt = some .string) {i : TypeInfo} (z1 : P.info? et = some i) {zv : Value} (z2 : i.zero = some zv) {z : D} (hz : cLeaf zv = some z) {y y2 : X} (hx : cX x = some y) (hx2 : cX x2 = some y2)
    {l : Nat} {s : ByteArray} {es : List (ByteArray × D)} (hl : y.ev e = .mpr l) (hs : y2.ev e = .str s) (hob : h l = .mp es) : Res P B w0 I μ w k (execOp ρ o) ((mfind s es).getD z) h := by
  have r1 := ho x y hx
  have r2 := ho x2 y2 hx2
  rw [hl] at r1
  rw [hs] at r2
  obtain ⟨p, b, p1, p2, hv⟩ := r1.mpr_inv
  have hv2 := r2.str_inv
  have hoo := hi.ob l
  rw [hob] at hoo
  obtain ⟨p', b', ens, clk, q1, q2, q3, q4, q5, q6⟩ := hoo
  rw [p1] at q1; obtain rfl := Option.some.inj q1; rw [p2] at q2; obtain rfl := Option.some.inj q2
  rcases find_ok s es ens 0 q5 with ⟨v, d, j, k', a1, a2, a3, a4, a5, a6⟩ | ⟨a1, a2, a3⟩
  · refine .pure hi (v := v) ?_ (by rw [a2]; exact .im a3)
    simp [execOp, hop, hv, hv2, Instr.lookup, run_underlying hu, run_getObj_map q4, checkKey_str hkt, Instr.findKey, run_underlying hkt, a1]
  · have hzi := (cLeaf_im (w := w) (I := I) hz).1
    refine .pure hi (v := zv) ?_ (by rw [a2]; exact .im hzi)
    simp [execOp, hop, hv, hv2, Instr.lookup, run_underlying hu, run_getObj_map q4, checkKey_str hkt, Instr.findKey, run_underlying hkt, a1, zeroValue, typeInfo, z1, z2]
theorem mput_ok (hi : Inv B w0 I μ h w) (ho : OpsOk w I μ e ρ) {o : Oper} {t kt et : TypeId} {x x2 x3 : Operand} (hop : o.op = .mapUpdate t x x2 x3 ∨ o.op = .insert t x x2 x3) (hu : P.underlying t = some (.map kt et)) (hkt : P.underlying kt = some .string) {y y2 y3 : X} (hx : cX x = some y) (hx2 : cX x2 = some y2) (hx3 : cX x3 = some y3)
    {l : Nat} {s : ByteArray} {es : List (ByteArray × D)} (hl : y.ev e = .mpr l) (hs : y2.ev e = .str s) (hob : h l = .mp es) (him : (y3.ev e).im = true) : Res P B w0 I μ w k (execOp ρ o) .und (hput h l (.mp (mset s (y3.ev e) es))) := by
  have r1 := ho x y hx
  have r2 := ho x2 y2 hx2
  have r3 := (ho x3 y3 hx3).im_of him
  rw [hl] at r1
  rw [hs] at r2
  obtain ⟨p, b, p1, p2, hv⟩ := r1.mpr_inv
  have hv2 := r2.str_inv
  have hoo := hi.ob l
  rw [hob] at hoo
  obtain ⟨p', b', ens, clk, q1, q2, q3, q4, q5, q6⟩ := hoo
  rw [p1] at q1; obtain rfl := Option.some.inj q1; rw [p2] at q2; obtain rfl := Option.some.inj q2
  have hlt : b < w.heap.size := (Array.getElem?_eq_some_iff.1 q4).1
  have fin : ∀ (ens' : List MapEntry) (clk' : Nat), MpOk w I (mset s (y3.ev e) es) ens' → (Instr.mapUpdate t (.map (some b)) (.string s) (ρ x3)).run P w = .ok () { w with heap := w.heap.setIfInBounds b (.map ens'.toArray clk') } → Res P B w0 I μ w k (execOp ρ o) .und (hput h l (.mp (mset s (y3.ev e) es))) := by
    intro ens' clk' hm hr
    have g : Go1 I I μ μ w { w with heap := w.heap.setIfInBounds b (.map ens'.toArray clk') } := ⟨fun _ h => h, fun c hc => by
      have : b ≠ c := fun e => q6 (e ▸ hc)
      simp [Array.getElem?_setIfInBounds_ne this], fun _ _ h => h⟩
    have hbel : Below B w { w with heap := w.heap.setIfInBounds b (.map ens'.toArray clk') } := ⟨rfl, rfl, rfl, by simp, fun c hc => by
      have : b ≠ c := by omega
      simp [Array.getElem?_setIfInBounds_ne this]⟩
    refine ⟨.skip, undef, _, I, μ, ?_, .inr ⟨rfl, rfl⟩, .im .und, ?_, g, fun _ h _ => h, fun _ h => .inl h⟩
    · rcases hop with hop | hop <;> simp [execOp, hop, hv, hv2, hr]
    · refine hi.put g hbel (fun c hc => by simpa using hi.lt c hc) (l := l) (o := .mp (mset s (y3.ev e) es)) _ (fun j hj => .inl (hput_ne h _ hj)) (hput_same h l _) ?_ ?_
      · exact ⟨p, b, ens', clk', p1, p2, q3, by simp [hlt], ⟨hm.1, fun j k d en a c => ⟨(hm.2 j k d en a c).1, (hm.2 j k d en a c).2.go g⟩⟩, q6⟩
      · intro j q c hj _ hoj hq hqc
        obtain ⟨o1, o2, o3⟩ := (hi.ob j).lt hq hqc hoj
        have hne : b ≠ c := fun e => hi.dis j l q p c hj hoj (by rw [hob]; rfl) hq p1 hqc (by rw [← e]; exact p2)
        exact ⟨by simp [Array.getElem?_setIfInBounds_ne hne], o2, fun _ p' hp' => by rw [p1] at hp'; obtain rfl := Option.some.inj hp'; rw [p2]; intro he; exact hne (Option.some.inj he)⟩
  have hset : ∀ (ens' : List MapEntry) (clk' : Nat), (setObj b (.map ens'.toArray clk')).run P w = .ok () { w with heap := w.heap.setIfInBounds b (.map ens'.toArray clk') } := by
    intro ens' clk'
    simp only [setObj, Sem.run, q4]
  rcases find_ok s es ens 0 q5 with ⟨v, d, j, k', a1, a2, a3, a4, a5, a6⟩ | ⟨a1, a2, a3⟩
  · have hj : j < ens.length := by have := (List.getElem?_eq_some_iff.1 a4).1; rw [← q5.1]; exact this
    have hen : ens[j]? = some ens[j] := List.getElem?_eq_getElem hj
    have hkey := (q5.2 j k' d ens[j] a4 hen).1
    have hb2 : (k' == s) = true := by
      rw [beq_toListBytes] at a5 ⊢
      simp only [beq_iff_eq] at a5 ⊢
      exact a5.symm
    refine fin (ens.modify j fun en => { en with key := .string s, val := ρ x3 }) clk ?_ ?_
    · rw [a6]
      refine ⟨by simp [q5.1], fun i k d en ha hb => ?_⟩
      rw [List.getElem?_set] at ha
      rw [List.getElem?_modify] at hb
      by_cases hij : j = i
      · subst hij
        rw [if_pos rfl] at ha
        split at ha
        · obtain ⟨rfl, rfl⟩ := Prod.mk.inj (Option.some.inj ha)
          rw [hen] at hb
          simp at hb
          subst hb
          exact ⟨rfl, r3⟩
        · cases ha
      · rw [if_neg hij] at ha
        simp [hij] at hb
        exact q5.2 i k d en ha hb
    · simp only [Nat.zero_add] at a1
      have hkt2 : (Instr.keyThatStays (.string k') (.string s)).run P w = .ok (.string s) w := by
        simp [Instr.keyThatStays, Instr.sameBits, hb2]
      simp [Instr.mapUpdate, run_underlying hu, run_getObj_map q4, checkKey_str hkt, Instr.findKey, run_underlying hkt, a1, hen, hkey, hkt2]
      have := hset (ens.modify j fun en => { en with key := .string s, val := ρ x3 }) clk
      simpa using this
  · refine fin (ens ++ [{ key := .string s, val := ρ x3, born := clk }]) (clk + 1) ?_ ?_
    · rw [a3]
      refine ⟨by simp [q5.1], fun i k d en ha hb => ?_⟩
      rcases Nat.lt_trichotomy i es.length with hlt | heq | hgt
      · rw [List.getElem?_append_left hlt] at ha
        rw [List.getElem?_append_left (by rw [← q5.1]; exact hlt)] at hb
        exact q5.2 i k d en ha hb
      · subst heq
        rw [List.getElem?_append_right (Nat.le_refl _)] at ha
        rw [List.getElem?_append_right (by rw [q5.1]; exact Nat.le_refl _)] at hb
        simp [q5.1] at ha hb
        obtain ⟨rfl, rfl⟩ := ha
        subst hb
        exact ⟨rfl, r3⟩
      · rw [List.getElem?_eq_none (by simp; omega)] at ha
        cases ha
    · simp [Instr.mapUpdate, run_underlying hu, run_getObj_map q4, checkKey_str hkt, Instr.findKey, run_underlying hkt, a1]
      have := hset (ens ++ [{ key := .string s, val := ρ x3, born := clk }]) (clk + 1)
      simpa using this
end
end Go.Proofs.Ytpdamhhaepcffaa.AE
/-
  AE, part 12: each plain operation does what AE says.
-/
set_option linter.unusedVariables false
set_option linter.unusedSimpArgs false
namespace Go.Proofs.Ytpdamhhaepcffaa.AE
open Go Go.RowKit
section
variable {P : Program} {B : Nat} {w0 w w' : World} {I I' : Nat → Prop} {μ μ' : Mu} {h h' : Hp} {e : Env} {ρ : Operand → Value} {d d' : D} {v : Value} {k : Nat}
theorem evP_ok (hi : Inv B w0 I μ h w) (ho : OpsOk w I μ e ρ) (hk : μ k = none) {o : Oper} {xo : XOp} (hc : cOp0 P o.op = some xo) (hev : evP e h k xo = some (d, h')) : Res P B w0 I μ w k (execOp ρ o) d h' := by
  cases hop : o.op <;> rw [hop] at hc <;> simp only [cOp0] at hc <;> try (cases hc; done)
  case move x =>
    simp only [Option.bind_eq_some_iff, Option.some.injEq] at hc
    obtain ⟨y, hy, rfl⟩ := hc
    simp only [evP, Option.some.injEq, Prod.mk.injEq] at hev
    obtain ⟨rfl, rfl⟩ := hev
    exact mv_ok hi ho (.inl hop) hy
  case assign x =>
    simp only [Option.bind_eq_some_iff, Option.some.injEq] at hc
    obtain ⟨y, hy, rfl⟩ := hc
    simp only [evP, Option.some.injEq, Prod.mk.injEq] at hev
    obtain ⟨rfl, rfl⟩ := hev
    exact mv_ok hi ho (.inr hop) hy
  case pick c a b =>
    simp only [Option.bind_eq_some_iff, Option.some.injEq] at hc
    obtain ⟨yc, h1, ya, h2, yb, h3, rfl⟩ := hc
    simp only [evP, Option.bind_eq_some_iff, Option.some.injEq, Prod.mk.injEq] at hev
    obtain ⟨t, ht, rfl, rfl⟩ := hev
    exact pick_ok hi ho hop h1 h2 h3 ht
  case alloc t =>
    simp only [Option.bind_eq_some_iff, Option.some.injEq] at hc
    obtain ⟨z, hz, rfl⟩ := hc
    simp only [evP, Option.some.injEq, Prod.mk.injEq] at hev
    obtain ⟨rfl, rfl⟩ := hev
    exact alloc_ok hi hk hop hz
  case box t x =>
    simp only [Option.bind_eq_some_iff, Option.some.injEq] at hc
    obtain ⟨n, hn, y, hy, rfl⟩ := hc
    simp only [evP, Option.bind_eq_some_iff] at hev
    obtain ⟨cs, hcs, hev⟩ := hev
    split at hev
    · simp only [Option.some.injEq, Prod.mk.injEq] at hev
      obtain ⟨rfl, rfl⟩ := hev
      exact box_ok hi ho hk hop hy hcs
    · cases hev
  case build t ps =>
    split at hc
    · rename_i fs hu
      simp only [Option.bind_eq_some_iff, Option.some.injEq] at hc
      obtain ⟨z, hz, pl, hpl, qs, hqs, rfl⟩ := hc
      simp only [evP, Option.bind_eq_some_iff, Option.some.injEq, Prod.mk.injEq] at hev
      obtain ⟨cs, hcs, rfl, rfl⟩ := hev
      exact build_ok hi ho hop hu hz hpl hqs hcs
    · cases hc
  case buildSlice t n ps =>
    split at hc
    · rename_i et hu
      simp only [Option.bind_eq_some_iff] at hc
      obtain ⟨z, hz, hc⟩ := hc
      split at hc
      · rename_i hcond
        simp only [Option.bind_eq_some_iff, Option.some.injEq] at hc
        obtain ⟨qs, hqs, rfl⟩ := hc
        simp only [evP, Option.bind_eq_some_iff, Option.some.injEq, Prod.mk.injEq] at hev
        obtain ⟨q, hq, xs, hxs, rfl, rfl⟩ := hev
        exact bsl_ok hi ho hk hop hu hz hcond.1 hcond.2 hqs hq hxs
      · cases hc
    · cases hc
  case load t x =>
    simp only [Option.bind_eq_some_iff, Option.some.injEq] at hc
    obtain ⟨n, hn, ag, hag, y, hy, rfl⟩ := hc
    simp only [evP, Option.bind_eq_some_iff, Option.some.injEq, Prod.mk.injEq] at hev
    obtain ⟨cs, hcs, d', hd', rfl, rfl⟩ := hev
    exact load_ok hi ho hop hn hag hy hcs hd'
  case store t x x2 =>
    simp only [Option.bind_eq_some_iff, Option.some.injEq] at hc
    obtain ⟨n, hn, y, hy, y2, hy2, rfl⟩ := hc
    simp only [evP, Option.bind_eq_some_iff, Option.some.injEq, Prod.mk.injEq] at hev
    obtain ⟨cs, hcs, h1, hh, rfl, rfl⟩ := hev
    exact store_ok hi ho hop hn hy hy2 hcs hh
  case nilCheck x =>
    simp only [Option.bind_eq_some_iff, Option.some.injEq] at hc
    obtain ⟨y, hy, rfl⟩ := hc
    simp only [evP] at hev
    split at hev
    · rename_i cs oo he
      simp only [Option.some.injEq, Prod.mk.injEq] at hev
      obtain ⟨rfl, rfl⟩ := hev
      rw [← he]
      exact nilc_ok hi ho hop hy (.inl ⟨cs, oo, he⟩)
    · rename_i l i oo he
      simp only [Option.some.injEq, Prod.mk.injEq] at hev
      obtain ⟨rfl, rfl⟩ := hev
      rw [← he]
      exact nilc_ok hi ho hop hy (.inr ⟨l, i, oo, he⟩)
    · cases hev
  case binOp op t x x2 t2 =>
    simp only [Option.bind_eq_some_iff] at hc
    obtain ⟨y, hy, y2, hy2, hc⟩ := hc
    split at hc
    · rename_i hu
      simp only [Option.some.injEq] at hc
      subst hc
      simp only [evP, Option.bind_eq_some_iff, Option.some.injEq, Prod.mk.injEq] at hev
      obtain ⟨d', hd', rfl, rfl⟩ := hev
      exact bin_ok hi ho hop hy hy2 (fun _ => hu) hd'
    · rename_i fs hu
      simp only [Option.bind_eq_some_iff] at hc
      obtain ⟨ks, hks, hc⟩ := hc
      split at hc
      · rename_i hcond
        have fin : ∀ neg, ((op = .eql ∧ neg = false) ∨ (op = .neq ∧ neg = true)) → evP e h k (.eqs neg ks y y2) = some (d, h') → Res P B w0 I μ w k (execOp ρ o) d h' := by
          intro neg hn hev
          simp only [evP] at hev
          split at hev
          · rename_i cs ds h1 h2
            simp only [Option.bind_eq_some_iff, Option.some.injEq, Prod.mk.injEq] at hev
            obtain ⟨tt, htt, rfl, rfl⟩ := hev
            exact eqs_ok hi ho hop hy hy2 hn hu hks hcond.1 hcond.2 h1 h2 htt
          · cases hev
        split at hc
        · simp only [Option.some.injEq] at hc; subst hc; exact fin _ (.inl ⟨rfl, rfl⟩) hev
        · simp only [Option.some.injEq] at hc; subst hc; exact fin _ (.inr ⟨rfl, rfl⟩) hev
        · cases hc
      · cases hc
    · simp only [Option.some.injEq] at hc
      subst hc
      simp only [evP, Option.bind_eq_some_iff, Option.some.injEq, Prod.mk.injEq] at hev
      obtain ⟨d', hd', rfl, rfl⟩ := hev
      exact bin_ok hi ho hop hy hy2 (fun hf => by cases hf) hd'
    · cases hc
  case unOp op t x =>
    simp only [Option.bind_eq_some_iff, Option.some.injEq] at hc
    obtain ⟨y, hy, rfl⟩ := hc
    simp only [evP, Option.bind_eq_some_iff, Option.some.injEq, Prod.mk.injEq] at hev
    obtain ⟨d', hd', rfl, rfl⟩ := hev
    exact un_ok hi ho hop hy hd'
  case extract x j =>
    simp only [Option.bind_eq_some_iff, Option.some.injEq] at hc
    obtain ⟨y, hy, rfl⟩ := hc
    simp only [evP] at hev
    split at hev
    · rename_i cs he
      simp only [Option.bind_eq_some_iff, Option.some.injEq, Prod.mk.injEq] at hev
      obtain ⟨d', hd', rfl, rfl⟩ := hev
      exact ext_ok hi ho hop hy he hd'
    · cases hev
  case field t x f =>
    split at hc
    · rename_i fs hu
      simp only [Option.bind_eq_some_iff, Option.some.injEq] at hc
      obtain ⟨fd, hfd, n, hn, ag, hag, y, hy, rfl⟩ := hc
      simp only [evP] at hev
      split at hev
      · rename_i cs he
        simp only [Option.bind_eq_some_iff, Option.some.injEq, Prod.mk.injEq] at hev
        obtain ⟨ds, hds, d', hd', rfl, rfl⟩ := hev
        exact fld_ok hi ho hop hu hfd hn hag hy he hds hd'
      · cases hev
    · cases hc
  case fieldAddr t x f =>
    split at hc
    · rename_i fs hu
      simp only [Option.bind_eq_some_iff] at hc
      obtain ⟨fd, hfd, n, hn, hc⟩ := hc
      split at hc
      · cases hc
      · rename_i hn0
        simp only [Option.bind_eq_some_iff, Option.some.injEq] at hc
        obtain ⟨y, hy, rfl⟩ := hc
        simp only [evP] at hev
        split at hev
        · rename_i cs oo he
          simp only [Option.some.injEq, Prod.mk.injEq] at hev
          obtain ⟨rfl, rfl⟩ := hev
          exact fad_ok hi ho hop hu hfd hn hn0 hy (.inl ⟨cs, oo, he, rfl⟩)
        · rename_i l i oo he
          simp only [Option.some.injEq, Prod.mk.injEq] at hev
          obtain ⟨rfl, rfl⟩ := hev
          exact fad_ok hi ho hop hu hfd hn hn0 hy (.inr ⟨l, i, oo, he, rfl⟩)
        · cases hev
    · cases hc
  case indexAddr t x x2 =>
    split at hc
    · rename_i n et hu
      simp only [Option.bind_eq_some_iff, Option.some.injEq] at hc
      obtain ⟨sz, hsz, y, hy, y2, hy2, rfl⟩ := hc
      simp only [evP, Option.bind_eq_some_iff] at hev
      obtain ⟨j, hj, hev⟩ := hev
      split at hev
      · rename_i hjb
        split at hev
        · rename_i cs oo he
          simp only [Option.some.injEq, Prod.mk.injEq] at hev
          obtain ⟨rfl, rfl⟩ := hev
          exact iaA_ok hi ho hop hu hsz hy hy2 hj hjb.1 hjb.2 (.inl ⟨cs, oo, he, rfl⟩)
        · rename_i l i oo he
          simp only [Option.some.injEq, Prod.mk.injEq] at hev
          obtain ⟨rfl, rfl⟩ := hev
          exact iaA_ok hi ho hop hu hsz hy hy2 hj hjb.1 hjb.2 (.inr ⟨l, i, oo, he, rfl⟩)
        · cases hev
      · cases hev
    · rename_i et hu
      simp only [Option.bind_eq_some_iff, Option.some.injEq] at hc
      obtain ⟨sz, hsz, y, hy, y2, hy2, rfl⟩ := hc
      simp only [evP, Option.bind_eq_some_iff] at hev
      obtain ⟨j, hj, hev⟩ := hev
      split at hev
      · rename_i hjb
        split at hev
        · rename_i xs he
          split at hev
          · rename_i z hz
            split at hev
            · rename_i hzl
              simp only [Option.some.injEq, Prod.mk.injEq] at hev
              obtain ⟨rfl, rfl⟩ := hev
              exact iaS_ok hi ho hop hu hsz hy hy2 hj hjb (.inl ⟨xs, z, he, hz, hzl, rfl⟩)
            · cases hev
          · cases hev
        · rename_i l he
          split at hev
          · rename_i ety sz' xs own hrow
            split at hev
            · rename_i hb
              obtain ⟨rfl, hb⟩ := hb
              simp only [Option.some.injEq, Prod.mk.injEq] at hev
              obtain ⟨rfl, rfl⟩ := hev
              exact iaS_ok hi ho hop hu hsz hy hy2 hj hjb (.inr ⟨l, ety, xs, own, he, hrow, hb, rfl⟩)
            · cases hev
          · cases hev
        · cases hev
      · cases hev
    · cases hc
  case index t x x2 =>
    split at hc
    · rename_i hu
      simp only [Option.bind_eq_some_iff, Option.some.injEq] at hc
      obtain ⟨y, hy, y2, hy2, rfl⟩ := hc
      simp only [evP, Option.bind_eq_some_iff] at hev
      obtain ⟨j, hj, hev⟩ := hev
      split at hev
      · rename_i s he
        split at hev
        · rename_i hb
          simp only [Option.some.injEq, Prod.mk.injEq] at hev
          obtain ⟨rfl, rfl⟩ := hev
          exact ixS_ok hi ho hop hu hy hy2 hj he hb
        · cases hev
      · cases hev
    · cases hc
  case makeFunc fn first caps =>
    cases fn with
    | func f =>
      simp only at hc
      split at hc
      · rename_i hfst
        simp only [Option.bind_eq_some_iff, Option.some.injEq] at hc
        obtain ⟨ys, hys, rfl⟩ := hc
        simp only [evP, Option.some.injEq, Prod.mk.injEq] at hev
        obtain ⟨rfl, rfl⟩ := hev
        exact mkfn_ok hi ho hop hfst hys
      · cases hc
    | _ => cases hc
  case makeMap t r =>
    cases r with
    | some x => cases hc
    | none =>
      simp only [Option.some.injEq] at hc
      subst hc
      simp only [evP, Option.some.injEq, Prod.mk.injEq] at hev
      obtain ⟨rfl, rfl⟩ := hev
      exact mkmap_ok hi hk hop
  case makeSlice t x x2 =>
    split at hc
    · rename_i et hu
      simp only [Option.bind_eq_some_iff] at hc
      obtain ⟨i, hinf, z, hz, hc⟩ := hc
      split at hc
      · rename_i hcond
        simp only [Option.bind_eq_some_iff, Option.some.injEq] at hc
        obtain ⟨y, hy, y2, hy2, rfl⟩ := hc
        simp only [evP, Option.bind_eq_some_iff] at hev
        obtain ⟨n, hn, m, hm, hev⟩ := hev
        split at hev
        · rename_i hnm
          obtain ⟨rfl, hlim⟩ := hnm
          simp only [Option.some.injEq, Prod.mk.injEq] at hev
          obtain ⟨rfl, rfl⟩ := hev
          exact mks_ok hi ho hk hop hu hinf hz hcond.1 hcond.2.1 hy hy2 hn hm hlim
        · cases hev
      · cases hc
    · cases hc
  case slice t x lo hi2 mx =>
    cases mx with
    | some m => cases hc
    | none =>
      simp only at hc
      split at hc
      · rename_i hu
        simp only [Option.bind_eq_some_iff, Option.some.injEq] at hc
        obtain ⟨y, hy, ylo, hlo, yhi, hhi, rfl⟩ := hc
        simp only [evP] at hev
        split at hev
        · rename_i s he
          simp only [Option.bind_eq_some_iff] at hev
          obtain ⟨a, ha, b, hb, hev⟩ := hev
          split at hev
          · rename_i hab
            simp only [Option.some.injEq, Prod.mk.injEq] at hev
            obtain ⟨rfl, rfl⟩ := hev
            exact slS_ok hi ho hop hu hy hlo hhi he ha hb hab.1 hab.2
          · cases hev
        · cases hev
      · cases hc
  case lookup t x x2 ok =>
    cases ok with
    | true => cases hc
    | false =>
      simp only at hc
      split at hc
      · rename_i kt et hu
        split at hc
        · rename_i hkt
          simp only [Option.bind_eq_some_iff, Option.some.injEq] at hc
          obtain ⟨i, hinf, zv, hzv, z, hz, y, hy, y2, hy2, rfl⟩ := hc
          simp only [evP] at hev
          split at hev
          · rename_i l s h1 h2
            split at hev
            · rename_i es hes
              simp only [Option.some.injEq, Prod.mk.injEq] at hev
              obtain ⟨rfl, rfl⟩ := hev
              exact mget_ok hi ho hop hu hkt hinf hzv hz hy hy2 h1 h2 hes
            · cases hev
          · cases hev
        · cases hc
      · cases hc
  case mapUpdate t x x2 x3 =>
    split at hc
    · rename_i kt et hu
      split at hc
      · rename_i hkt
        simp only [Option.bind_eq_some_iff, Option.some.injEq] at hc
        obtain ⟨y, hy, y2, hy2, y3, hy3, rfl⟩ := hc
        simp only [evP] at hev
        split at hev
        · rename_i l s h1 h2
          split at hev
          · rename_i es hes
            split at hev
            · rename_i hcond
              simp only [Option.some.injEq, Prod.mk.injEq] at hev
              obtain ⟨rfl, rfl⟩ := hev
              exact mput_ok hi ho (.inl hop) hu hkt hy hy2 hy3 h1 h2 hes hcond.2
            · cases hev
          · cases hev
        · cases hev
      · cases hc
    · cases hc
  case insert t x x2 x3 =>
    split at hc
    · rename_i kt et hu
      split at hc
      · rename_i hkt
        simp only [Option.bind_eq_some_iff, Option.some.injEq] at hc
        obtain ⟨y, hy, y2, hy2, y3, hy3, rfl⟩ := hc
        simp only [evP] at hev
        split at hev
        · rename_i l s h1 h2
          split at hev
          · rename_i es hes
            split at hev
            · rename_i hcond
              simp only [Option.some.injEq, Prod.mk.injEq] at hev
              obtain ⟨rfl, rfl⟩ := hev
              exact mput_ok hi ho (.inr hop) hu hkt hy hy2 hy3 h1 h2 hes hcond.2
            · cases hev
          · cases hev
        · cases hev
      · cases hc
    · cases hc
  case convert s t x =>
    split at hc
    · rename_i ks kt hs ht
      simp only [Option.bind_eq_some_iff, Option.some.injEq] at hc
      obtain ⟨y, hy, rfl⟩ := hc
      simp only [evP, Option.bind_eq_some_iff, Option.some.injEq, Prod.mk.injEq] at hev
      obtain ⟨n, hn, rfl, rfl⟩ := hev
      exact cvi_ok hi ho hop hs ht hy hn
    · cases hc
  case call c =>
    split at hc
    · simp only [Option.bind_eq_some_iff, Option.some.injEq] at hc
      obtain ⟨xs, _, rfl⟩ := hc
      cases hev
    · simp only [Option.bind_eq_some_iff, Option.some.injEq] at hc
      obtain ⟨xs, _, rfl⟩ := hc
      cases hev
    · rename_i hcal
      split at hc
      · rename_i x t ha hat
        split at hc
        · rename_i hu
          simp only [Option.bind_eq_some_iff, Option.some.injEq] at hc
          obtain ⟨y, hy, rfl⟩ := hc
          simp only [evP, if_true] at hev
          split at hev
          · rename_i s hs
            simp only [Option.some.injEq, Prod.mk.injEq] at hev
            obtain ⟨rfl, rfl⟩ := hev
            exact len_ok hi ho hop hcal ha hat hy (.inl hu) (.inl ⟨s, hs, rfl, hu⟩)
          · cases hev
        · rename_i et hu
          simp only [Option.bind_eq_some_iff, Option.some.injEq] at hc
          obtain ⟨y, hy, rfl⟩ := hc
          simp only [evP, Bool.false_eq_true, if_false, Option.bind_eq_some_iff, Option.some.injEq, Prod.mk.injEq] at hev
          obtain ⟨xs, hxs, rfl, rfl⟩ := hev
          exact len_ok hi ho hop hcal ha hat hy (.inr ⟨et, hu⟩) (.inr ⟨xs, hxs, rfl, et, hu⟩)
        · cases hc
      · cases hc
    · rename_i hcal
      split at hc
      · rename_i x x2 t u ha hat
        split at hc
        · rename_i htu
          subst htu
          split at hc
          · rename_i et hu
            simp only [Option.bind_eq_some_iff] at hc
            obtain ⟨i, hinf, z, hz, hc⟩ := hc
            split at hc
            · rename_i hcond
              simp only [Option.bind_eq_some_iff, Option.some.injEq] at hc
              obtain ⟨y, hy, y2, hy2, rfl⟩ := hc
              simp only [evP, Option.bind_eq_some_iff] at hev
              obtain ⟨ys, hys, hev⟩ := hev
              split at hev
              · rename_i he
                split at hev
                · rename_i hb
                  simp only [Option.some.injEq, Prod.mk.injEq] at hev
                  obtain ⟨rfl, rfl⟩ := hev
                  exact app_ok hi ho hk hop hcal ha hat hu hinf hz hcond.1 hcond.2 hy hy2 hys (fun y hy => by simpa using List.all_eq_true.1 hb.2 y hy) (.inl ⟨he, hb.1, rfl⟩)
                · cases hev
              · rename_i l he
                split at hev
                · rename_i t' sz' xs hrow
                  split at hev
                  · rename_i hb
                    obtain ⟨rfl, rfl, hb⟩ := hb
                    simp only [Option.some.injEq, Prod.mk.injEq] at hev
                    obtain ⟨rfl, rfl⟩ := hev
                    exact app_ok hi ho hk hop hcal ha hat hu hinf hz hcond.1 hcond.2 hy hy2 hys (fun y hy => by simpa using List.all_eq_true.1 hb.2 y hy) (.inr ⟨l, xs, he, hrow, hb.1, rfl⟩)
                  · cases hev
                · cases hev
              · cases hev
            · cases hc
          · cases hc
        · cases hc
      · cases hc
    · rename_i hcal
      split at hc
      · rename_i x x2 ha
        simp only [Option.bind_eq_some_iff, Option.some.injEq] at hc
        obtain ⟨y, hy, y2, hy2, rfl⟩ := hc
        simp only [evP, Option.bind_eq_some_iff, Option.some.injEq, Prod.mk.injEq] at hev
        obtain ⟨d', hd', rfl, rfl⟩ := hev
        exact mm_ok hi ho hop (up := true) hcal ha hy hy2 hd'
      · cases hc
    · rename_i hcal
      split at hc
      · rename_i x x2 ha
        simp only [Option.bind_eq_some_iff, Option.some.injEq] at hc
        obtain ⟨y, hy, y2, hy2, rfl⟩ := hc
        simp only [evP, Option.bind_eq_some_iff, Option.some.injEq, Prod.mk.injEq] at hev
        obtain ⟨d', hd', rfl, rfl⟩ := hev
        exact mm_ok hi ho hop (up := false) hcal ha hy hy2 hd'
      · cases hc
    · cases hc
theorem Res.frz {s : Sem Next} {h1 h2 : Hp} {d2 : D} (hr : Res P B w0 I μ w k s d h1) (hf : AE.frz 9 h1 d = some (d2, h2)) : Res P B w0 I μ w k s d2 h2 := by
  obtain ⟨nx, v, w', I', μ', e1, e2, r, i, g, n, l⟩ := hr
  obtain ⟨I2, g2, i2, m2, n2, l2⟩ := frz_ok 9 I' h1 h2 d d2 v hf i r
  exact ⟨nx, v, w', I2, μ', e1, e2, .im m2, i2, g.trans g2, n, fun b hb => (n2.1 b hb).elim (l b) (fun ho => .inr (ho.ge i).2.2)⟩
theorem hput_hput (h : Hp) (k : Nat) (a b : Ob) : hput (hput h k a) k b = hput h k b := by
  funext i
  unfold hput
  split <;> rfl
theorem evP_ok2 (hi : Inv B w0 I μ h w) (ho : OpsOk w I μ e ρ) (hk : μ k = none) {dr : Bool} {o : Oper} {xo : XOp} (hc : cOp P dr o.op = some xo) (hev : evP e h k xo = some (d, h')) : Res P B w0 I μ w k (execOp ρ o) d h' := by
  obtain ⟨x, hx, rfl⟩ := cOp_inv hc
  have hx0 := (cOpA_some hx).1
  have same : fzOp dr x = x → Res P B w0 I μ w k (execOp ρ o) d h' := fun h => by rw [h] at hev; exact evP_ok hi ho hk hx0 hev
  cases x
  case bsl t sz z n ps =>
    cases dr with
    | false => exact same rfl
    | true =>
      simp only [fzOp, if_true, evP, Option.bind_eq_some_iff, Option.some.injEq, Prod.mk.injEq] at hev
      obtain ⟨q, hq, xs, hxs, rfl, rfl⟩ := hev
      have h1 : evP e h k (.bsl t sz z n ps) = some (.osl k, hput q.2 k (.row t sz xs true)) := by simp only [evP, hq, Option.bind_some, hxs]
      refine (evP_ok hi ho hk hx0 h1).frz ?_
      show AE.frz (8 + 1) _ _ = _
      simp only [AE.frz, hput_same, hput_hput]
  case build z ps =>
    cases dr with
    | true => exact same rfl
    | false =>
      simp only [fzOp, Bool.false_eq_true, if_false, evP, Option.bind_eq_some_iff] at hev
      obtain ⟨cs, hcs, hev⟩ := hev
      have h1 : evP e h k (.build z ps) = some (.agg cs, h) := by simp only [evP, hcs, Option.bind_some]
      exact (evP_ok hi ho hk hx0 h1).frz hev
  all_goals exact same rfl
end
end Go.Proofs.Ytpdamhhaepcffaa.AE
/-
  AE, part 13: calls.
-/
set_option linter.unusedVariables false
set_option linter.unusedSimpArgs false
namespace Go.Proofs.Ytpdamhhaepcffaa.AE
open Go Go.RowKit
section
variable {P : Program} {B : Nat} {w0 w w' : World} {I I' : Nat → Prop} {μ μ' : Mu} {h h' : Hp} {e : Env} {ρ : Operand → Value} {d d' : D} {v : Value} {k : Nat}
/-- A name is given up. -/
theorem Inv.drop (hi : Inv B w0 I μ h w) (l : Nat) : Inv B w0 I μ (hput h l .no) w := by
  refine hi.put (.refl _ _ _) (Below.refl _ _) hi.lt (l := l) (o := .no) _ (fun j hj => .inl (hput_ne h _ hj)) (hput_same h l _) trivial ?_
  intro j q c hj _ hoj hq hqc
  obtain ⟨o1, o2, o3⟩ := (hi.ob j).lt hq hqc hoj
  exact ⟨rfl, o2, fun hf => by cases hf⟩
/-- A row that is handed back. -/
def RowOk (w : World) (I : Nat → Prop) (Bc ety sz : Nat) (xs : List (List D)) (v : Value) : Prop :=
  ∃ cells, 0 < sz ∧ w.ownsRow Bc ety sz v xs.length cells ∧ (∀ x ∈ xs, x.length = sz) ∧ (∀ x ∈ xs, ∀ d ∈ x, D.leaf d = true) ∧ ImL w I xs.flatten cells ∧ (∀ b, v.ownBlock = some b → ¬ I b)
/-- What is handed back: U, the blocks of the rows in it. -/
def Outs (w : World) (I : Nat → Prop) (Bc : Nat) : List D → List Value → (Nat → Prop) → Prop
  | [], vs, U => vs = [] ∧ ∀ b, ¬ U b
  | d :: r, vs, U => ∃ v q, vs = v :: q ∧ match d with
    | .own ety sz xs => RowOk w I Bc ety sz xs v ∧ ∃ U', Outs w I Bc r q U' ∧ (∀ b, v.ownBlock = some b → ¬ U' b) ∧ ∀ b, U b ↔ (U' b ∨ v.ownBlock = some b)
    | d => Im w I d v ∧ Outs w I Bc r q U
theorem outs_im {r : List D} {q : List Value} {U : Nat → Prop} {Bc : Nat} (hd : ∀ e s x, d ≠ .own e s x) (h1 : Im w I d v) (h2 : Outs w I Bc r q U) : Outs w I Bc (d :: r) (v :: q) U := by
  cases d <;> first | exact ⟨v, q, rfl, h1, h2⟩ | exact absurd rfl (hd _ _ _)
theorem im_not_own (h1 : Im w I d v) : ∀ e s x, d ≠ .own e s x := by
  intro e s x he
  subst he
  cases h1
theorem retL_ok {Bc : Nat} : ∀ (ds : List D) (h : Hp) (I : Nat → Prop) (rds : List D) (vs : List Value), Inv Bc w0 I μ h w → RpL w I μ ds vs → retL h ds = some rds →
    ∃ I' U, Go1 I I' μ μ w w ∧ (∀ b, I' b → I b ∨ OwnB h μ b) ∧ (∀ b, I' b → b < w.heap.size) ∧ Outs w I' Bc rds vs U ∧ (∀ b, U b → OwnB h μ b)
  | [], h, I, rds, vs, hi, hv, hr => by
    simp only [retL, Option.some.injEq] at hr
    subst hr
    exact ⟨I, fun _ => False, .refl _ _ _, fun b hb => .inl hb, hi.lt, ⟨hv.inv0, fun _ h => h⟩, fun b hb => hb.elim⟩
  | d :: r, h, I, rds, vs, hi, hv, hr => by
    obtain ⟨v, q, rfl, h1, h2⟩ := hv.inv
    have other : ∀ rds, ((frz 9 h d).bind fun p => (retL p.2 r).bind fun q => some (p.1 :: q)) = some rds → ∃ I' U, Go1 I I' μ μ w w ∧ (∀ b, I' b → I b ∨ OwnB h μ b) ∧ (∀ b, I' b → b < w.heap.size) ∧ Outs w I' Bc rds (v :: q) U ∧ (∀ b, U b → OwnB h μ b) := by
      intro rds hr
      simp only [Option.bind_eq_some_iff, Option.some.injEq] at hr
      obtain ⟨p, hp, rr, hrr, rfl⟩ := hr
      obtain ⟨I1, g1, i1, m1, n1, l1⟩ := frz_ok 9 I h p.2 d p.1 v hp hi h1
      obtain ⟨I2, U, g2, n2, lt2, o2, u2⟩ := retL_ok r p.2 I1 rr q i1 (h2.go g1) hrr
      refine ⟨I2, U, g1.trans g2, fun b hb => ?_, lt2, outs_im (im_not_own m1) (m1.go g2) o2, fun b hb => (u2 b hb).sub n1.2⟩
      rcases n2 b hb with hb | hb
      · exact n1.1 b hb
      · exact .inr (hb.sub n1.2)
    cases d with
    | osl l =>
      simp only [retL] at hr
      cases hl : h l with
      | row ety sz xs own =>
        rw [hl] at hr
        cases own with
        | false => exact other rds hr
        | true =>
          simp only [Option.bind_eq_some_iff, Option.some.injEq] at hr
          obtain ⟨rr, hrr, rfl⟩ := hr
          have hoo := hi.ob l
          rw [hl] at hoo
          obtain ⟨p, cells, k1, k2, k3, k4, k5, k6, k7, k8, k9, k10⟩ := hoo
          have hval : v = p.val := by
            cases h1 with
            | im hm => cases hm
            | osl h hv2 => rw [k1] at h; obtain rfl := Option.some.inj h; exact hv2.symm
          obtain ⟨I2, U, g2, n2, lt2, o2, u2⟩ := retL_ok r (hput h l .no) I rr q (hi.drop l) h2 hrr
          have far : ∀ b, OwnB (hput h l .no) μ b → p.b ≠ some b := by
            rintro b ⟨j, pj, j1, j2, j3⟩ hb
            have hjl : j ≠ l := by rintro rfl; rw [hput_same] at j1; cases j1
            rw [hput_ne _ _ hjl] at j1
            exact hi.dis j l pj p b hjl j1 (by rw [hl]; rfl) j2 k1 j3 hb
          have hsub : ∀ b, OwnB (hput h l .no) μ b → OwnB h μ b := fun b hb => hb.sub (own_sub_put rfl)
          refine ⟨I2, fun b => U b ∨ v.ownBlock = some b, g2, fun b hb => ?_, lt2, ⟨v, q, rfl, ⟨cells, k3, by rw [hval]; exact k5, k6, k7, k8.go g2, fun b hb hI => ?_⟩, U, o2, fun b hb hU => ?_, fun b => Iff.rfl⟩, fun b hb => ?_⟩
          · rcases n2 b hb with hb | hb
            · exact .inl hb
            · exact .inr (hsub b hb)
          · rw [hval, ← k4] at hb
            rcases n2 b hI with hI | hI
            · exact k9 rfl b hb hI
            · exact far b hI hb
          · rw [hval, ← k4] at hb
            exact far b (u2 b hU) hb
          · rcases hb with hb | hb
            · exact hsub b (u2 b hb)
            · rw [hval, ← k4] at hb
              exact ⟨l, p, by rw [hl]; rfl, k1, hb⟩
      | _ => rw [hl] at hr; exact other rds hr
    | _ => simp only [retL] at hr; exact other rds hr
theorem takeIn_ok {Bc : Nat} (hBB : B ≤ Bc) : ∀ (rds : List D) (vs : List Value) (U : Nat → Prop) (h : Hp) (μ : Mu) (k : Nat), Inv B w0 I μ h w → Outs w I Bc rds vs U → (∀ b, OwnB h μ b → ¬ U b) → (∀ j, j < rds.length → μ (k + j) = none) →
    ∃ μ', Inv B w0 I μ' (takeIn h k rds).2 w ∧ RpL w I μ' (takeIn h k rds).1 vs ∧ (∀ l p, μ l = some p → μ' l = some p) ∧ (∀ l, μ l = none → (l < k ∨ k + rds.length ≤ l) → μ' l = none)
  | [], vs, U, h, μ, k, hi, ho, hU, hk => by
    obtain ⟨rfl, _⟩ := ho
    exact ⟨μ, hi, .nil, fun _ _ h => h, fun _ h _ => h⟩
  | d :: r, vs, U, h, μ, k, hi, ho, hU, hk => by
    obtain ⟨v, q, rfl, ho⟩ := ho
    have other : Im w I d v → Outs w I Bc r q U → takeIn h k (d :: r) = (d :: (takeIn h (k + 1) r).1, (takeIn h (k + 1) r).2) → ∃ μ', Inv B w0 I μ' (takeIn h k (d :: r)).2 w ∧ RpL w I μ' (takeIn h k (d :: r)).1 (v :: q) ∧ (∀ l p, μ l = some p → μ' l = some p) ∧ (∀ l, μ l = none → (l < k ∨ k + (d :: r).length ≤ l) → μ' l = none) := by
      intro h1 h2 he
      obtain ⟨μ1, a1, a2, a3, a4⟩ := takeIn_ok hBB r q U h μ (k + 1) hi h2 hU (fun j hj => by have := hk (j + 1) (by simpa using hj); rwa [show k + 1 + j = k + (j + 1) by omega])
      rw [he]
      exact ⟨μ1, a1, .cons (.im h1) a2, a3, fun l hl hlk => a4 l hl (by simp at hlk; omega)⟩
    cases d with
    | own ety sz xs =>
      obtain ⟨⟨cells, r1, r2, r3, r4, r5, r6⟩, U', o1, o2, o3⟩ := ho
      have hk0 : μ k = none := by have := hk 0 (by simp); simpa using this
      have g : Go1 I I μ (mput μ k ⟨v.ownBlock, sz, v⟩) w w := ⟨fun _ h => h, fun _ _ => rfl, mput_go hk0 _⟩
      have hi1 : Inv B w0 I (mput μ k ⟨v.ownBlock, sz, v⟩) (hput h k (.row ety sz xs true)) w := by
        refine hi.put g (Below.refl _ _) hi.lt (l := k) (o := .row ety sz xs true) _ (fun j hj => .inl (hput_ne h _ hj)) (hput_same h k _) ?_ ?_
        · refine ⟨_, cells, mput_same _ _ _, rfl, r1, rfl, ⟨r2.1, ?_⟩, r3, r4, r5, fun _ b hb => r6 b hb, fun hf => by cases hf⟩
          rcases r2.2 with hn | ⟨gb, cap, cur, e1, e2, e3⟩
          · exact .inl hn
          · exact .inr ⟨gb, cap, cur, e1, Nat.le_trans hBB e2, e3⟩
        · intro j p b hj _ hoj hq hqc
          obtain ⟨q1, q2, q3⟩ := (hi.ob j).lt hq hqc hoj
          refine ⟨rfl, q2, fun _ p' hp' => ?_⟩
          rw [mput_same] at hp'
          obtain rfl := Option.some.inj hp'
          intro hb
          exact hU b ⟨j, p, hoj, hq, hqc⟩ ((o3 b).2 (.inr hb))
      obtain ⟨μ1, a1, a2, a3, a4⟩ := takeIn_ok hBB r q U' (hput h k (.row ety sz xs true)) (mput μ k ⟨v.ownBlock, sz, v⟩) (k + 1) hi1 o1 (fun b hb => by
          obtain ⟨j, p, j1, j2, j3⟩ := hb
          by_cases hj : j = k
          · subst hj
            rw [mput_same] at j2
            obtain rfl := Option.some.inj j2
            exact o2 b j3
          · rw [hput_ne _ _ hj] at j1
            rw [mput_ne _ _ hj] at j2
            intro hU'
            exact hU b ⟨j, p, j1, j2, j3⟩ ((o3 b).2 (.inl hU'))) (fun j hj => by rw [mput_ne _ _ (by omega)]; have := hk (j + 1) (by simpa using hj); rwa [show k + 1 + j = k + (j + 1) by omega])
      have hform : ∃ A n c, v = .slice A n c := by
        rcases r2.2 with ⟨rfl, _⟩ | ⟨g, cap, cur, rfl, _⟩
        · exact ⟨_, _, _, rfl⟩
        · exact ⟨_, _, _, rfl⟩
      refine ⟨μ1, a1, ?_, fun l p hl => a3 l p (g.nam l p hl), fun l hl hlk => a4 l (by rw [mput_ne _ _ (by simp at hlk; omega)]; exact hl) (by simp at hlk; omega)⟩
      obtain ⟨A, n, c, rfl⟩ := hform
      exact .cons (.osl (a3 k _ (mput_same _ _ _)) rfl) a2
    | _ => exact other ho.1 ho.2 rfl

/-! ### calls -/
def oneV (rs : List Value) : Value := match rs with
  | [v] => v
  | rs => .tuple rs.toArray
theorem one_rp {ds : List D} {rs : List Value} (hr : RpL w I μ ds rs) : Rp w I μ (one ds) (oneV rs) := by
  match ds, rs, hr with
  | [], rs, hr => obtain rfl := hr.inv0; exact .tup [] rfl (fun j d v h => by simp at h)
  | [d], rs, hr =>
    obtain ⟨v, q, rfl, h1, h2⟩ := hr.inv
    obtain rfl := h2.inv0
    exact h1
  | d :: d2 :: r, rs, hr =>
    obtain ⟨v, q, rfl, h1, h2⟩ := hr.inv
    obtain ⟨v2, q2, rfl, h3, h4⟩ := h2.inv
    exact .tup _ hr.1 hr.2
/-- Calls with fewer rounds do what AE says. -/
def CallsOk (P : Program) (C : Calls1) : Prop := ∀ f args h k ds h' k', C f args h k = some (ds, h', k') →
  (∃ fn, P.funcs[f]? = some fn ∧ fn.body.isSome = true ∧ (fn.name == "runtime.NumGoroutine") = false) ∧
  ∀ B w0 I μ w vs, Inv B w0 I μ h w → (∀ l, k ≤ l → μ l = none) → RpL w I μ args vs →
    Calls P f vs.toArray w (fun en w' => ∃ rs I' μ', en = .returned (oneV rs) ∧ RpL w' I' μ' ds rs ∧ Inv B w0 I' μ' h' w' ∧ Go1 I I' μ μ' w w' ∧ (∀ l, k' ≤ l → μ' l = none) ∧ (∀ l, l < k → μ l = none → μ' l = none) ∧ k ≤ k' ∧ (∀ b, I' b → I b ∨ B ≤ b))
theorem run_callFunc {f : Nat} {fn : Func} (h1 : P.funcs[f]? = some fn) (h2 : fn.body.isSome = true) (h3 : (fn.name == "runtime.NumGoroutine") = false) (args : Array Value) : (callFunc f args).run P w = .ok (.enter f args) w := by
  have h4 : ¬ fn.body = none := by intro hb; rw [hb] at h2; cases h2
  have h5 : ¬ fn.name = "runtime.NumGoroutine" := by simpa using h3
  simp [callFunc, h1, h5, h4]
end
end Go.Proofs.Ytpdamhhaepcffaa.AE
/-
  AE, part 14: any operation; the operations of a region in order.
-/
set_option linter.unusedVariables false
set_option linter.unusedSimpArgs false
namespace Go.Proofs.Ytpdamhhaepcffaa.AE
open Go Go.RowKit
section
variable {P : Program} {B : Nat} {w0 w w' : World} {I I' : Nat → Prop} {μ μ' : Mu} {h h' : Hp} {e : Env} {ρ : Operand → Value} {d d' : D} {v : Value} {k n n' : Nat} {C : Calls1} {md : Nat → Bool}
theorem Inv.none (w : World) (hlt : ∀ b, I b → b < w.heap.size) : Inv w.heap.size w I (fun _ => Option.none) (fun _ => .no) w :=
  ⟨Below.refl _ _, Nat.le_refl _, hlt, fun _ => trivial, fun l l' p p' b _ ho => by cases ho⟩
theorem callP_ok (HC : CallsOk P C) {f : Nat} {args rds : List D} (hc : callP C f args = some rds) (hlt : ∀ b, I b → b < w.heap.size) {vs : List Value} (hv : ImL w I args vs) :
    (∃ fn, P.funcs[f]? = some fn ∧ fn.body.isSome = true ∧ (fn.name == "runtime.NumGoroutine") = false) ∧
    Calls P f vs.toArray w (fun en w' => ∃ rs I' U, en = .returned (oneV rs) ∧ Below w.heap.size w w' ∧ (∀ b, I b → I' b) ∧ (∀ b, I' b → I b ∨ w.heap.size ≤ b) ∧ (∀ b, I' b → b < w'.heap.size) ∧ Outs w' I' w.heap.size rds rs U ∧ (∀ b, U b → w.heap.size ≤ b)) := by
  unfold callP at hc
  simp only [Option.bind_eq_some_iff] at hc
  obtain ⟨r, hr, hret⟩ := hc
  obtain ⟨h1, h2⟩ := HC f args _ 0 r.1 r.2.1 r.2.2 hr
  refine ⟨h1, (h2 _ w I _ w vs (Inv.none w hlt) (fun _ _ => rfl) hv.rp).mono ?_⟩
  rintro en w' ⟨rs, I1, μ1, rfl, r1, i1, g1, _, _, _, n1⟩
  obtain ⟨I2, U, g2, n2, l2, o2, u2⟩ := retL_ok r.1 r.2.1 I1 rds rs i1 r1 hret
  refine ⟨rs, I2, U, rfl, i1.below, fun b hb => g2.imp b (g1.imp b hb), fun b hb => ?_, l2, o2, fun b hb => ((u2 b hb).ge i1).2.2⟩
  rcases n2 b hb with hb | hb
  · exact n1 b hb
  · exact .inr (hb.ge i1).2.2
theorem outs_scalar {Bc : Nat} : ∀ {rds : List D} {rs : List Value} {U : Nat → Prop}, Outs w I Bc rds rs U → rds.all D.scalar = true → ImL w I' rds rs
  | [], rs, U, ho, hs => by obtain ⟨rfl, _⟩ := ho; exact .nil
  | d :: r, rs, U, ho, hs => by
    obtain ⟨v, q, rfl, ho⟩ := ho
    simp only [List.all_cons, Bool.and_eq_true] at hs
    cases d <;> first | (cases hs.1; done) | skip
    · obtain ⟨hm, hr⟩ := ho; cases hm; exact .cons (.int _ _) (outs_scalar hr hs.2)
    · obtain ⟨hm, hr⟩ := ho; cases hm; exact .cons (.bool _) (outs_scalar hr hs.2)
    · obtain ⟨hm, hr⟩ := ho; cases hm; exact .cons (.str _) (outs_scalar hr hs.2)
/-- What a call operation runs into. -/
theorem call_target (hi : Inv B w0 I μ h w) (ho : OpsOk w I μ e ρ) {dr : Bool} {o : Oper} {xo : XOp} (hc : cOp P dr o.op = some xo) (hcall : isCall xo = true) {f : Nat} {args : List D} (ht : target e xo = some (f, args)) {fn : Func} (h1 : P.funcs[f]? = some fn) (h2 : fn.body.isSome = true) (h3 : (fn.name == "runtime.NumGoroutine") = false) :
    ∃ vs : List Value, RpL w I μ args vs ∧ (execOp ρ o).run P w = .ok (.enter f vs.toArray) w := by
  have core : ∀ (c : Go.Call) (x : Operand) (caps : List Value) (ys : List X), o.op = .call c → c.callee = .value x → ρ x = .func (.func f) #[] caps.toArray → cXs c.args.toList = some ys → ∀ cd : List D, RpL w I μ cd caps → args = ys.map (X.ev e) ++ cd →
      ∃ vs : List Value, RpL w I μ args vs ∧ (execOp ρ o).run P w = .ok (.enter f vs.toArray) w := by
    intro c x caps ys hop hcal hx hys cd hcd ha
    refine ⟨c.args.toList.map ρ ++ caps, by rw [ha]; exact (ho.list hys).app hcd, ?_⟩
    have hm : (c.args.toList.map ρ ++ caps).toArray = c.args.map ρ ++ caps.toArray := by
      rw [← List.append_toArray, ← Array.toList_map, Array.toArray_toList]
    rw [hm]
    simp [execOp, hop, resolve, hcal, Deferred.ofValue, hx, invoke, run_callFunc h1 h2 h3]
  obtain ⟨hc0, hcc⟩ := cOpA_some (cOp_call hc hcall)
  obtain ⟨c, x, hop, hcal⟩ := hcc hcall
  rw [hop] at hc0
  simp only [cOp0, hcal] at hc0
  cases x with
  | func g =>
    simp only [Option.bind_eq_some_iff, Option.some.injEq] at hc0
    obtain ⟨ys, hys, rfl⟩ := hc0
    simp only [target, Option.some.injEq, Prod.mk.injEq] at ht
    obtain ⟨rfl, rfl⟩ := ht
    obtain ⟨vs, hv, hr⟩ := (ho (.func g) (.c (.fn g [])) rfl).fn_inv
    exact core c (.func g) vs ys hop hcal hv hys [] hr (by simp)
  | tmp g =>
    simp only [Option.bind_eq_some_iff, Option.some.injEq] at hc0
    obtain ⟨ys, hys, rfl⟩ := hc0
    simp only [target] at ht
    split at ht
    · rename_i f' caps hf
      simp only [Option.some.injEq, Prod.mk.injEq] at ht
      obtain ⟨rfl, rfl⟩ := ht
      have hr := ho (.tmp g) (.t g) rfl
      rw [hf] at hr
      obtain ⟨vs, hv, hr⟩ := hr.fn_inv
      exact core c (.tmp g) vs ys hop hcal hv hys caps hr rfl
    · cases ht
  | _ => cases hc0
theorem evOp_ok (HC : CallsOk P C) (hi : Inv B w0 I μ h w) {a : Act} (ho : OpsOk w I μ e a.eval) {dr : Bool} {o : Oper} {xo : XOp} (hc : cOp P dr o.op = some xo) (hev : evOp md C e h k n xo = some (d, h', n')) (hk : ∀ j, j < W8 → μ (k + j) = none) (hn : ∀ l, n ≤ l → μ l = none) (hkn : k + W8 ≤ n)
    {K : Act → World → Prop} {Q : Exit → Act → World → Prop} (hK : ∀ v w' I' μ', Rp w' I' μ' d v → Inv B w0 I' μ' h' w' → Go1 I I' μ μ' w w' → (∀ l, μ l = none → (l < k ∨ k + W8 ≤ l) → l < n → μ' l = none) → (∀ l, n' ≤ l → μ' l = none) → n ≤ n' → (∀ b, I' b → I b ∨ B ≤ b) → K (a.put o.dst v) w') : o.wp P a w K Q := by
  have w8 : W8 = 8 := rfl
  unfold evOp at hev
  split at hev
  · rename_i hcall
    simp only [Option.bind_eq_some_iff] at hev
    obtain ⟨⟨f, args⟩, ht, hev⟩ := hev
    simp only at hev
    split at hev
    · simp only [Option.bind_eq_some_iff, Option.some.injEq, Prod.mk.injEq] at hev
      obtain ⟨⟨ds, h1, n1⟩, hr, rfl, rfl, rfl⟩ := hev
      obtain ⟨⟨fn, f1, f2, f3⟩, hcalls⟩ := HC f args h n ds h1 n1 hr
      obtain ⟨vs, hvs, hrun⟩ := call_target hi ho hc hcall ht f1 f2 f3
      unfold Oper.wp
      rw [hrun]
      refine (hcalls B w0 I μ w vs hi hn hvs).mono ?_
      rintro en w' ⟨rs, I', μ', rfl, r1, i1, g1, nm1, nm2, nm3, nb⟩
      exact hK _ w' I' μ' (one_rp r1) i1 g1 (fun l hl hlk hln => nm2 l hln hl) nm1 nm3 nb
    · simp only [Option.bind_eq_some_iff] at hev
      obtain ⟨⟨args1, h1⟩, hq, r, hr, hev⟩ := hev
      simp only at hev hr
      -- the arguments are frozen
      have hfn : ∃ fn, P.funcs[f]? = some fn ∧ fn.body.isSome = true ∧ (fn.name == "runtime.NumGoroutine") = false := by
        unfold callP at hr
        simp only [Option.bind_eq_some_iff] at hr
        obtain ⟨r0, hr0, _⟩ := hr
        exact (HC f args1 _ 0 r0.1 r0.2.1 r0.2.2 hr0).1
      obtain ⟨fn, f1, f2, f3⟩ := hfn
      obtain ⟨vs, hvs, hrun⟩ := call_target hi ho hc hcall ht f1 f2 f3
      obtain ⟨I1, g1, i1, m1, ⟨nb1, os1⟩, _⟩ := frzL_ok (fun I h h' d d' v => frz_ok 9 I h h' d d' v) args I h h1 args1 vs hq hi hvs
      obtain ⟨_, hcalls⟩ := callP_ok HC hr i1.lt m1
      unfold Oper.wp
      rw [hrun]
      refine hcalls.mono ?_
      rintro en w' ⟨rs, I2, U, rfl, bel, im2, nw2, lt2, outs, u2⟩
      have bel' : Below B w w' := bel.mono hi.hB
      split at hev
      · rename_i hsc
        simp only [Option.some.injEq, Prod.mk.injEq] at hev
        obtain ⟨rfl, rfl, rfl⟩ := hev
        have g : Go1 I I μ μ w w' := ⟨fun _ h => h, fun b hb => bel.block b (hi.lt b hb), fun _ _ h => h⟩
        have hinv : Inv B w0 I μ h w' := hi.go g bel' (fun b hb => Nat.lt_of_lt_of_le (hi.lt b hb) bel.size) (fun b hb _ => hb) (fun b hb => bel.block b hb)
        exact hK _ w' I μ (one_rp (outs_scalar outs hsc).rp) hinv g (fun l hl _ _ => hl) hn (Nat.le_refl _) (fun b hb => .inl hb)
      · split at hev
        · rename_i hlen
          simp only [Option.some.injEq, Prod.mk.injEq] at hev
          obtain ⟨rfl, rfl, rfl⟩ := hev
          have g : Go1 I1 I2 μ μ w w' := ⟨im2, fun b hb => bel.block b (i1.lt b hb), fun _ _ h => h⟩
          have hinv : Inv B w0 I2 μ h1 w' := i1.go g bel' lt2 (fun b hb hlt => by
            rcases nw2 b hb with h | h
            · exact h
            · omega) (fun b hb => bel.block b hb)
          obtain ⟨μ3, a1, a2, a3, a4⟩ := takeIn_ok hi.hB r rs U h1 μ k hinv outs (fun b hb hU => by
            obtain ⟨l, p, p1, p2, p3⟩ := hb
            have := ((i1.ob l).lt p2 p3 p1).1
            have := u2 b hU
            omega) (fun j hj => hk j (by omega))
          have g3 : Go1 I2 I2 μ μ3 w' w' := ⟨fun _ h => h, fun _ _ => rfl, a3⟩
          refine hK _ w' I2 μ3 (one_rp a2) a1 (g1.trans (g.trans g3)) (fun l hl hlk hln => a4 l hl (by omega)) (fun l hl => a4 l (hn l hl) (by omega)) (Nat.le_refl _) (fun b hb => ?_)
          rcases nw2 b hb with h | h
          · rcases nb1 b h with h | h
            · exact .inl h
            · exact .inr (h.ge hi).2.2
          · exact .inr (Nat.le_trans hi.hB h)
        · cases hev
  · rename_i hcall
    simp only [Option.bind_eq_some_iff, Option.some.injEq, Prod.mk.injEq] at hev
    obtain ⟨⟨d1, h1⟩, hev, rfl, rfl, rfl⟩ := hev
    obtain ⟨nx, v, w', I', μ', hrun, hnx, r1, i1, g1, nm, nb⟩ := evP_ok2 hi ho (by have := hk 0 (by decide); simpa using this) hc hev
    have hk2 := hK v w' I' μ' r1 i1 g1 (fun l hl hlk _ => nm l hl (by omega)) (fun l hl => nm l (hn l hl) (by omega)) (Nat.le_refl _) nb
    unfold Oper.wp
    rw [hrun]
    rcases hnx with rfl | ⟨rfl, rfl⟩
    · exact hk2
    · exact hk2
end
end Go.Proofs.Ytpdamhhaepcffaa.AE
