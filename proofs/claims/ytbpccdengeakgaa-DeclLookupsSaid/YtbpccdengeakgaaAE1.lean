/-
  A small evaluator over data (AE), part 1: the data, the operations, the evaluation. No program in sight.
-/
import Derived.WalkKit
import Derived.KernelRfl
import Derived.Laws.StandIn
import Derived.Laws.BytesArg
set_option linter.unusedVariables false
namespace Go.Proofs.Ytbpccdengeakgaa.AE
open Go Go.RowKit

/-- Data: what a Go value is, memory left out. -/
inductive D where
  | und
  | int (k : IntKind) (n : Int)
  | bool (b : Bool)
  | str (s : ByteArray)
  | nlf
  | nls
  | isl (xs : List (List D))
  | agg (cs : List D)
  | tup (cs : List D)
  | ipt (cs : List D) (o : Nat)
  | ptr (l i o : Nat)
  | osl (l : Nat)
  | mpr (l : Nat)
  | fn (f : Nat) (caps : List D)
  | own (e sz : Nat) (xs : List (List D))

/-- An operand. -/
inductive X where
  | t (k : Nat)
  | c (d : D)

/-- A block of the call's own. -/
inductive Ob where
  | no
  | var (cs : List D) (own : Bool)
  | row (e sz : Nat) (xs : List (List D)) (own : Bool)
  | mp (es : List (ByteArray × D))

abbrev Env := Nat → D
abbrev Hp := Nat → Ob
def eput (e : Env) (k : Nat) (d : D) : Env := fun i => if i = k then d else e i
def hput (h : Hp) (k : Nat) (o : Ob) : Hp := fun i => if i = k then o else h i
theorem eput_same (e : Env) (k : Nat) (d : D) : eput e k d k = d := by simp [eput]
theorem eput_ne (e : Env) {k j : Nat} (d : D) (h : j ≠ k) : eput e k d j = e j := by simp [eput, h]
theorem hput_same (h : Hp) (k : Nat) (d : Ob) : hput h k d k = d := by simp [hput]
theorem hput_ne (h : Hp) {k j : Nat} (d : Ob) (hn : j ≠ k) : hput h k d j = h j := by simp [hput, hn]

def X.ev (e : Env) : X → D
  | .t k => e k
  | .c d => d

/-- The operations. -/
inductive XOp where
  | mv (x : X)
  | pick (c a b : X)
  | alloc (z : List D)
  | box (n : Nat) (x : X)
  | build (z : List D) (ps : List (Nat × Nat × X))
  | bsl (e sz : Nat) (z : List D) (n : Nat) (ps : List (Nat × X))
  | load (n : Nat) (ag : Bool) (x : X)
  | store (n : Nat) (x y : X)
  | bin (bt : Bool) (op : BinOp) (x y : X)
  | eqs (neg : Bool) (ks : List Nat) (x y : X)
  | un (op : UnOp) (x : X)
  | ext (x : X) (k : Nat)
  | fld (n : Nat) (ag : Bool) (off : Nat) (x : X)
  | fad (off : Nat) (x : X)
  | iaA (n sz : Nat) (x i : X)
  | iaS (sz : Nat) (x i : X)
  | ixS (x i : X)
  | len (st : Bool) (x : X)
  | app (e sz bytes : Nat) (x y : X)
  | call (f : Nat) (xs : List X)
  | callv (x : X) (xs : List X)
  | mkfn (f : Nat) (xs : List X)
  | slS (x : X) (lo hi : Option X)
  | mks (e sz bytes : Nat) (z : List D) (x y : X)
  | mkmap
  | mget (z : D) (x i : X)
  | mput (x i y : X)
  | nilc (x : X)
  | cvi (kd : IntKind) (x : X)
  | bsf (e sz : Nat) (z : List D) (n : Nat) (ps : List (Nat × X))
  | bdf (z : List D) (ps : List (Nat × Nat × X))
  | mm (hi : Bool) (x y : X)
  | ibs (x y : X)
  | bts (x : X)
  | bad

structure XO where
  dst : Option Nat
  g : Option (Nat × Bool)
  op : XOp
  bef : List Nat

inductive XC where
  | skip
  | reg (draw : Bool) (prs : List (Nat × Nat)) (ops : List XO)
  | seq (a b : XC)
  | cond (x : X) (a b : XC)
  | blk (id : Nat) (a : XC)
  | loop (a : XC)
  | exit (id : Nat)
  | ret

structure XF where
  nt : Nat
  body : XC
  res : List (Nat × Option (Nat × Bool))

inductive Ex where
  | nrm
  | exit (id : Nat)
  | ret

structure St where
  e : Env
  h : Hp
  k : Nat

/-! ### cells -/
def D.leaf : D → Bool
  | .agg _ | .tup _ | .und | .own .. => false
  | _ => true
def D.cells : D → Option (List D)
  | .agg cs => if cs.all D.leaf then some cs else none
  | d => if d.leaf then some [d] else none
def mkD (ag : Bool) (cs : List D) : Option D := if ag then some (.agg cs) else match cs with
  | [d] => some d
  | _ => none
/-- n cells from o on. -/
def sub (cs : List D) (o n : Nat) : Option (List D) := if o + n ≤ cs.length then some ((cs.drop o).take n) else none
def spl {α : Type} (cs : List α) (o : Nat) (ds : List α) : List α := cs.take o ++ ds ++ cs.drop (o + ds.length)
/-- A datum that reads no block of the call's own. -/
def D.im : D → Bool
  | .ptr .. | .osl _ | .mpr _ | .agg _ | .tup _ | .own .. => false
  | .fn _ caps => caps.isEmpty
  | _ => true
/-- The same, or a struct of such. -/
def D.imA : D → Bool
  | .agg cs => cs.all D.im
  | .fn _ caps => caps.all D.im
  | d => d.im
/-- The same, or a function value that holds such. -/
def D.imF : D → Bool
  | .fn _ caps => caps.all D.im
  | d => d.im

/-! ### freezing: blocks of the own are given up; what refers to them reads them as they are -/
def frzL (g : Hp → D → Option (D × Hp)) : Hp → List D → Option (List D × Hp)
  | h, [] => some ([], h)
  | h, d :: r => (g h d).bind fun p => (frzL g p.2 r).bind fun q => some (p.1 :: q.1, q.2)
def frz : Nat → Hp → D → Option (D × Hp)
  | 0, _, _ => none
  | n + 1, h, d => match d with
    | .osl l => match h l with
      | .row e sz xs _ => some (.isl xs, hput h l (.row e sz xs false))
      | _ => none
    | .ptr l i o => match h l with
      | .var cs _ => if i = 0 then (frzL (frz n) h cs).bind fun p => match p.2 l with
          | .var _ _ => some (.ipt p.1 o, hput p.2 l (.var p.1 false))
          | _ => none
        else none
      | .row e sz xs _ => match xs[i]? with
        | some x => some (.ipt x o, hput h l (.row e sz xs false))
        | none => none
      | _ => none
    | .agg cs => (frzL (frz n) h cs).bind fun p => some (.agg p.1, p.2)
    | .fn f caps => (frzL (frz n) h caps).bind fun p => some (.fn f p.1, p.2)
    | .tup _ => none
    | .mpr _ => none
    | .own .. => none
    | d => some (d, h)
/-- What a call hands back: rows of its own as rows; all else frozen. -/
def retL : Hp → List D → Option (List D)
  | _, [] => some []
  | h, d :: r => match d with
    | .osl l => match h l with
      | .row e sz xs true => (retL (hput h l .no) r).bind fun q => some (.own e sz xs :: q)
      | _ => (frz 9 h d).bind fun p => (retL p.2 r).bind fun q => some (p.1 :: q)
    | d => (frz 9 h d).bind fun p => (retL p.2 r).bind fun q => some (p.1 :: q)
def D.scalar : D → Bool
  | .int .. | .bool _ | .str _ => true
  | _ => false
/-- What came back is taken in: rows become blocks k, k + 1, .. -/
def takeIn (h : Hp) : Nat → List D → List D × Hp
  | _, [] => ([], h)
  | k, d :: r => match d with
    | .own e sz xs => let q := takeIn (hput h k (.row e sz xs true)) (k + 1) r; (.osl k :: q.1, q.2)
    | d => let q := takeIn h (k + 1) r; (d :: q.1, q.2)
def one (ds : List D) : D := match ds with
  | [d] => d
  | ds => .tup ds

/-! ### the plain operations -/
def asI : D → Option Int
  | .int _ n => some n
  | _ => none
def asN : D → Option Nat
  | .int .i64 n => if 0 ≤ n then some n.toNat else none
  | _ => none
def asB : D → Option Bool
  | .bool b => some b
  | _ => none
/-- Cells of a struct compared: kinds 0 (whole numbers), 1 (bools), 2 (strings). -/
def eqC (k : Nat) : D → D → Option Bool
  | .int a x, .int b y => if k = 0 ∧ a = b then some (x == y) else none
  | .bool x, .bool y => if k = 1 then some (x == y) else none
  | .str x, .str y => if k = 2 then some (x.toList == y.toList) else none
  | _, _ => none
def eqL : List Nat → List D → List D → Option Bool
  | [], [], [] => some true
  | k :: ks, a :: r, b :: q => (eqC k a b).bind fun t => (eqL ks r q).bind fun u => some (t && u)
  | _, _, _ => none
def binD (bt : Bool) (op : BinOp) : D → D → Option D
  | .int k a, .int k' b => if k = k' then match op with
      | .add => some (.int k (k.wrap (a + b)))
      | .sub => some (.int k (k.wrap (a - b)))
      | .mul => some (.int k (k.wrap (a * b)))
      | .eql => some (.bool (a == b))
      | .neq => some (.bool (a != b))
      | .lss => some (.bool (a < b))
      | .leq => some (.bool (a ≤ b))
      | .gtr => some (.bool (a > b))
      | .geq => some (.bool (a ≥ b))
      | _ => none
    else none
  | .str a, .str b => match op with
      | .add => if a.size + b.size ≤ 9223372036854775807 then some (.str (a ++ b)) else none
      | .eql => some (.bool (a.toList == b.toList))
      | .neq => some (.bool (!(a.toList == b.toList)))
      | .lss => some (.bool (Op.bytesLess a.toList b.toList))
      | .leq => some (.bool (Op.bytesLess a.toList b.toList || a.toList == b.toList))
      | .gtr => some (.bool (!(Op.bytesLess a.toList b.toList || a.toList == b.toList)))
      | .geq => some (.bool (!Op.bytesLess a.toList b.toList))
      | _ => none
  | .bool a, .bool b => if bt then match op with
      | .eql => some (.bool (a == b))
      | .neq => some (.bool (!(a == b)))
      | _ => none
    else none
  | _, _ => none
/-- The greater (hi) or the less of two. -/
def mmD (hi : Bool) : D → D → Option D
  | .int k a, .int k' b => if k = k' then some (.int k (if hi then (if b > a then b else a) else (if b < a then b else a))) else none
  | _, _ => none
def unD (op : UnOp) : D → Option D
  | .bool b => match op with
    | .not => some (.bool !b)
    | _ => none
  | .int k n => match op with
    | .neg => some (.int k (k.wrap (0 - n)))
    | _ => none
  | _ => none
def fillD (cs : List D) : List (Nat × Nat × D) → Option (List D)
  | [] => some cs
  | (off, n, d) :: r => match d.cells with
    | some ds => if ds.length = n ∧ off + n ≤ cs.length then fillD (spl cs off ds) r else none
    | none => none
def fillR (sz : Nat) (xs : List (List D)) : List (Nat × D) → Option (List (List D))
  | [] => some xs
  | (i, d) :: r => match d.cells with
    | some ds => if ds.length = sz ∧ i < xs.length ∧ ds.all D.imF then fillR sz (xs.set i ds) r else none
    | none => none
def cellsAt (h : Hp) (n : Nat) : D → Option (List D)
  | .ipt cs o => sub cs o n
  | .ptr l i o => match h l with
    | .var cs _ => if i = 0 then sub cs o n else none
    | .row _ _ xs _ => match xs[i]? with
      | some x => sub x o n
      | none => none
    | _ => none
  | _ => none
def putAt (h : Hp) (n : Nat) (ds : List D) : D → Option Hp
  | .ptr l i o => match h l with
    | .var cs true => if i = 0 ∧ o + n ≤ cs.length ∧ ds.length = n then some (hput h l (.var (spl cs o ds) true)) else none
    | .row e sz xs true => match xs[i]? with
      | some x => if o + n ≤ x.length ∧ ds.length = n ∧ ds.all D.imF then some (hput h l (.row e sz (xs.set i (spl x o ds)) true)) else none
      | none => none
    | _ => none
  | _ => none
/-- The elements of a slice that is read. -/
def elems (h : Hp) : D → Option (List (List D))
  | .nls => some []
  | .isl xs => some xs
  | .osl l => match h l with
    | .row _ _ xs _ => some xs
    | _ => none
  | _ => none
/-- The bytes of a slice. -/
def bytD : List (List D) → Option (List Int)
  | [] => some []
  | r :: q => match r with
    | [.int .u8 n] => (bytD q).bind fun ns => some (n :: ns)
    | _ => none
def ibsD : D → D → Option D
  | .str s, .int .u8 c => some (.int .i64 (firstIdx s c.toNat.toUInt8))
  | _, _ => none
def mfind (k : ByteArray) : List (ByteArray × D) → Option D
  | [] => none
  | (a, d) :: r => if k == a then some d else mfind k r
def mset (k : ByteArray) (v : D) : List (ByteArray × D) → List (ByteArray × D)
  | [] => [(k, v)]
  | (a, d) :: r => if k == a then (k, v) :: r else (a, d) :: mset k v r
/-- The bound of lists that grow. -/
abbrev Lim : Nat := 68719476736
/-- n elements of so many bytes may be had by appends. -/
def LimA (bytes n : Nat) : Prop := n ≤ Lim ∨ (bytes ≤ 64 ∧ n ≤ 2199023255552)
instance (b n : Nat) : Decidable (LimA b n) := by unfold LimA; infer_instance

/-- How a call is carried out: no: as a function of data; yes: on the caller's own blocks. -/
abbrev Calls1 := Nat → List D → Hp → Nat → Option (List D × Hp × Nat)

/-- A bound of a cut. -/
def bnd (e : Env) (z : Nat) : Option X → Option Nat
  | none => some z
  | some x => asN (x.ev e)
/-- One plain operation (no call): what it yields, and the blocks behind it; k: the name of a new block. -/
def evP (e : Env) (h : Hp) (k : Nat) : XOp → Option (D × Hp)
  | .mv x => some (x.ev e, h)
  | .pick c a b => (asB (c.ev e)).bind fun t => some (if t then a.ev e else b.ev e, h)
  | .alloc z => some (.ptr k 0 0, hput h k (.var z true))
  | .box n x => (x.ev e).cells.bind fun cs => if cs.length = n then some (.ptr k 0 0, hput h k (.var cs true)) else none
  | .build z ps => (fillD z (ps.map fun p => (p.1, p.2.1, p.2.2.ev e))).bind fun cs => some (.agg cs, h)
  | .bsl t sz z n ps => (frzL (fun h d => frz 9 h d) h (ps.map fun p => p.2.ev e)).bind fun q => (fillR sz (List.replicate n z) ((ps.map (·.1)).zip q.1)).bind fun xs => some (.osl k, hput q.2 k (.row t sz xs true))
  | .load n ag x => (cellsAt h n (x.ev e)).bind fun cs => (mkD ag cs).bind fun d => some (d, h)
  | .store n x y => (y.ev e).cells.bind fun cs => (putAt h n cs (x.ev e)).bind fun h' => some (.und, h')
  | .bin bt op x y => (binD bt op (x.ev e) (y.ev e)).bind fun d => some (d, h)
  | .eqs neg ks x y => match x.ev e, y.ev e with
    | .agg cs, .agg ds => (eqL ks cs ds).bind fun t => some (.bool (if neg then !t else t), h)
    | _, _ => none
  | .un op x => (unD op (x.ev e)).bind fun d => some (d, h)
  | .ext x k => match x.ev e with
    | .tup cs => cs[k]?.bind fun d => some (d, h)
    | _ => none
  | .fld n ag off x => match x.ev e with
    | .agg cs => (sub cs off n).bind fun ds => (mkD ag ds).bind fun d => some (d, h)
    | _ => none
  | .fad off x => match x.ev e with
    | .ipt cs o => some (.ipt cs (o + off), h)
    | .ptr l i o => some (.ptr l i (o + off), h)
    | _ => none
  | .iaA n sz x i => (asI (i.ev e)).bind fun j => if 0 ≤ j ∧ j < n then match x.ev e with
      | .ipt cs o => some (.ipt cs (o + j.toNat * sz), h)
      | .ptr l i o => some (.ptr l i (o + j.toNat * sz), h)
      | _ => none
    else none
  | .iaS sz x i => (asI (i.ev e)).bind fun j => if 0 ≤ j then match x.ev e with
      | .isl xs => match xs[j.toNat]? with
        | some y => if y.length = sz then some (.ipt y 0, h) else none
        | none => none
      | .osl l => match h l with
        | .row _ sz' xs _ => if sz' = sz ∧ j.toNat < xs.length then some (.ptr l j.toNat 0, h) else none
        | _ => none
      | _ => none
    else none
  | .ixS x i => (asI (i.ev e)).bind fun j => match x.ev e with
      | .str s => if h0 : 0 ≤ j ∧ j.toNat < s.size then some (.int .u8 (s[j.toNat]'h0.2).toNat, h) else none
      | _ => none
  | .len st x => if st then match x.ev e with
      | .str s => some (.int .i64 s.size, h)
      | _ => none
    else (elems h (x.ev e)).bind fun xs => some (.int .i64 xs.length, h)
  | .app t sz bytes x y => (elems h (y.ev e)).bind fun ys => match x.ev e with
    | .nls => if LimA bytes ys.length ∧ (ys.all fun y => decide (y.length = sz)) then some (.osl k, hput h k (.row t sz ys true)) else none
    | .osl l => match h l with
      | .row t' sz' xs true => if t' = t ∧ sz' = sz ∧ LimA bytes (xs.length + ys.length) ∧ (ys.all fun y => decide (y.length = sz)) then some (.osl k, hput (hput h l .no) k (.row t sz (xs ++ ys) true)) else none
      | _ => none
    | _ => none
  | .mkfn f xs => some (.fn f (xs.map (X.ev e)), h)
  | .slS x lo hi => match x.ev e with
    | .str s => (bnd e 0 lo).bind fun a => (bnd e s.size hi).bind fun b => if a ≤ b ∧ b ≤ s.size then some (.str (s.extract a b), h) else none
    | _ => none
  | .mks t sz bytes z x y => (asN (x.ev e)).bind fun n => (asN (y.ev e)).bind fun m => if n = m ∧ n ≤ Lim then some (.osl k, hput h k (.row t sz (List.replicate n z) true)) else none
  | .mkmap => some (.mpr k, hput h k (.mp []))
  | .mget z x i => match x.ev e, i.ev e with
    | .mpr l, .str s => match h l with
      | .mp es => some ((mfind s es).getD z, h)
      | _ => none
    | _, _ => none
  | .mput x i y => match x.ev e, i.ev e with
    | .mpr l, .str s => match h l with
      | .mp es => if (y.ev e).leaf ∧ (y.ev e).im then some (.und, hput h l (.mp (mset s (y.ev e) es))) else none
      | _ => none
    | _, _ => none
  | .nilc x => match x.ev e with
    | .ipt cs o => some (.ipt cs o, h)
    | .ptr l i o => some (.ptr l i o, h)
    | _ => none
  | .bsf t sz z n ps => (frzL (fun h d => frz 9 h d) h (ps.map fun p => p.2.ev e)).bind fun q => (fillR sz (List.replicate n z) ((ps.map (·.1)).zip q.1)).bind fun xs => some (.isl xs, hput q.2 k (.row t sz xs false))
  | .bdf z ps => (fillD z (ps.map fun p => (p.1, p.2.1, p.2.2.ev e))).bind fun cs => frz 9 h (.agg cs)
  | .cvi kd x => (asI (x.ev e)).bind fun n => some (.int kd (kd.wrap n), h)
  | .mm hi x y => (mmD hi (x.ev e) (y.ev e)).bind fun d => some (d, h)
  | .ibs x y => (ibsD (x.ev e) (y.ev e)).bind fun d => some (d, h)
  | .bts x => (elems h (x.ev e)).bind fun xs => (bytD xs).bind fun ns => some (.str (strOfNums ns), h)
  | .bad => none
  | .call .. => none
  | .callv .. => none

/-- Names that one operation may make. -/
abbrev W8 : Nat := 8
/-- A call as a function of data. -/
def callP (C : Calls1) (f : Nat) (args : List D) : Option (List D) := (C f args (fun _ => .no) 0).bind fun r => retL r.2.1 r.1
/-- What is called, with what. -/
def target (e : Env) : XOp → Option (Nat × List D)
  | .call f xs => some (f, xs.map (X.ev e))
  | .callv x xs => match x.ev e with
    | .fn f caps => some (f, xs.map (X.ev e) ++ caps)
    | _ => none
  | _ => none
def isCall : XOp → Bool
  | .call .. | .callv .. => true
  | _ => false
/-- One operation. n: the next name for calls on the caller's own blocks. -/
def evOp (md : Nat → Bool) (C : Calls1) (e : Env) (h : Hp) (k n : Nat) (o : XOp) : Option (D × Hp × Nat) :=
  if isCall o then (target e o).bind fun t => if md t.1 then (C t.1 t.2 h n).bind fun r => some (one r.1, r.2.1, r.2.2)
    else (frzL (fun h d => frz 9 h d) h t.2).bind fun q => (callP C t.1 q.1).bind fun r =>
      if r.all D.scalar then some (one r, h, n) else if r.length ≤ W8 then let p := takeIn q.2 k r; some (one p.1, p.2, n) else none
  else (evP e h k o).bind fun r => some (r.1, r.2, n)

def wantedD (e : Env) : Option (Nat × Bool) → Option Bool
  | none => some true
  | some (t, b) => match e t with
    | .bool c => some (c == b)
    | .und => some false
    | _ => none
def eputO (e : Env) (dst : Option Nat) (d : D) : Env := match dst with
  | none => e
  | some k => eput e k d
def evOps (md : Nat → Bool) (C : Calls1) (k : Nat) : List XO → St → Option St
  | [], s => some s
  | o :: r, s => (wantedD s.e o.g).bind fun w => if w then
      (evOp md C s.e s.h k s.k o.op).bind fun q => evOps md C (k + W8) r ⟨eputO s.e o.dst q.1, q.2.1, q.2.2⟩
    else evOps md C (k + W8) r ⟨eputO s.e o.dst .und, s.h, s.k⟩

/-! ### regions whose order is drawn -/
/-- The blocks of the own that an operation reads, and that it writes. -/
def D.nm : D → List Nat
  | .ptr l _ _ => [l]
  | .osl l => [l]
  | .mpr l => [l]
  | _ => []
/-- The blocks that data reaches. -/
def nmD : Nat → Hp → D → List Nat
  | 0, _, _ => []
  | n + 1, h, d => match d with
    | .ptr l _ _ => l :: (match h l with
      | .var cs _ => cs.flatMap (nmD n h)
      | _ => [])
    | .osl l => [l]
    | .mpr l => [l]
    | .agg cs => cs.flatMap (nmD n h)
    | .fn _ cs => cs.flatMap (nmD n h)
    | _ => []
def nmL (h : Hp) (A : List D) : List Nat := A.flatMap (nmD 9 h)
/-- Is it a call on the caller's own blocks? -/
def isMd (md : Nat → Bool) (e : Env) (o : XOp) : Bool := match target e o with
  | some t => md t.1
  | none => false
/-- Is it known to give back scalars only? (Such a call leaves its arguments as they are.) -/
def rdr (md : Nat → Bool) (f : Nat) : Bool := !md f && md (f + 1000000)
def tchC (md : Nat → Bool) (h : Hp) (f : Nat) (A : List D) : List Nat × List Nat := if rdr md f then (nmL h A, []) else ([], nmL h A)
def touch (md : Nat → Bool) (e : Env) (h : Hp) : XOp → List Nat × List Nat
  | .load _ _ x => ((x.ev e).nm, [])
  | .store _ x _ => ([], (x.ev e).nm)
  | .iaS _ x _ => ((x.ev e).nm, [])
  | .len _ x => ((x.ev e).nm, [])
  | .bts x => ((x.ev e).nm, [])
  | .app _ _ _ x y => ((y.ev e).nm, (x.ev e).nm)
  | .bsl _ _ _ _ ps | .bsf _ _ _ _ ps => ([], nmL h (ps.map fun p => p.2.ev e))
  | .call f xs => tchC md h f (xs.map (X.ev e))
  | .callv x xs => match x.ev e with
    | .fn f caps => tchC md h f (xs.map (X.ev e) ++ caps)
    | _ => ([], [])
  | _ => ([], [])
def Ob.here : Ob → Bool
  | .no => false
  | _ => true
/-- The heap that a call on the caller's own blocks may look at. -/
def restr (h : Hp) (T : List Nat) (n : Nat) : Hp := fun l => if T.contains l || decide (n ≤ l) then h l else .no
def okCall (md : Nat → Bool) (C : Calls1) (h : Hp) (n f : Nat) (A : List D) : Bool :=
  (nmL h A).all (fun l => (h l).here) && (if md f then (C f A (restr h (nmL h A) n) n).isSome else if rdr md f then (((frzL (fun h d => frz 9 h d) h A).bind fun q => callP C f q.1).any fun r => r.all D.scalar) else true)
/-- What may stand in such a region. -/
def okD (md : Nat → Bool) (C : Calls1) (e : Env) (h : Hp) (n : Nat) : XOp → Bool
  | .bsl _ _ _ _ ps | .bsf _ _ _ _ ps => (nmL h (ps.map fun p => p.2.ev e)).all fun l => (h l).here
  | .bdf .. => false
  | .mkmap | .mget .. | .mput .. => false
  | .app _ _ _ x y => !(((x.ev e).nm).any fun l => ((y.ev e).nm).contains l)
  | .call f xs => okCall md C h n f (xs.map (X.ev e))
  | .callv x xs => match x.ev e with
    | .fn f caps => okCall md C h n f (xs.map (X.ev e) ++ caps)
    | _ => false
  | _ => true
/-- The operations of such a region in the text's order, with what each touches; fr: a call on the caller's own blocks may still come. -/
def evOpsD (md : Nat → Bool) (C : Calls1) (k : Nat) (fr : Bool) : List XO → St → Option (List (List Nat × List Nat) × St)
  | [], s => some ([], s)
  | o :: r, s => (wantedD s.e o.g).bind fun w => if w then
      if okD md C s.e s.h s.k o.op && (fr || !isMd md s.e o.op) then (evOp md C s.e s.h k s.k o.op).bind fun q => (evOpsD md C (k + W8) (fr && !isMd md s.e o.op) r ⟨eputO s.e o.dst q.1, q.2.1, q.2.2⟩).bind fun z => some (touch md s.e s.h o.op :: z.1, z.2)
      else none
    else (evOpsD md C (k + W8) fr r ⟨eputO s.e o.dst .und, s.h, s.k⟩).bind fun z => some (([], []) :: z.1, z.2)
def apartT (x y : List Nat × List Nat) : Bool := !(x.2.any fun l => y.1.contains l || y.2.contains l) && !(y.2.any fun l => x.1.contains l)
def prsOk (ts : List (List Nat × List Nat)) (prs : List (Nat × Nat)) : Bool := prs.all fun p => apartT (ts.getD p.1 ([], [])) (ts.getD p.2 ([], []))

def X.tm : X → List Nat
  | .t k => [k]
  | .c _ => []
def X.ok : X → Bool
  | .t _ => true
  | .c d => d.im
def XOp.xs : XOp → List X
  | .mv x | .un _ x | .ext x _ | .fld _ _ _ x | .fad _ x | .load _ _ x | .len _ x | .box _ x | .nilc x | .cvi _ x | .bts x => [x]
  | .pick c a b => [c, a, b]
  | .alloc _ | .mkmap | .bad => []
  | .build _ ps | .bdf _ ps => ps.map fun p => p.2.2
  | .bsl _ _ _ _ ps | .bsf _ _ _ _ ps => ps.map fun p => p.2
  | .store _ x y | .bin _ _ x y | .eqs _ _ x y | .iaA _ _ x y | .iaS _ x y | .ixS x y | .app _ _ _ x y | .mks _ _ _ _ x y | .mget _ x y | .mm _ x y | .ibs x y => [x, y]
  | .mput x y z => [x, y, z]
  | .call _ xs | .mkfn _ xs => xs
  | .callv x xs => x :: xs
  | .slS x lo hi => x :: (lo.toList ++ hi.toList)
def XO.rd (o : XO) : List Nat := o.op.xs.flatMap X.tm ++ (match o.g with | none => [] | some (t, _) => [t])
/-- No temporary is written by the one and named by the other. -/
def XO.apart (x y : XO) : Bool := (match x.dst with | none => true | some t => !y.rd.contains t && y.dst != some t) && (match y.dst with | none => true | some t => !x.rd.contains t)
/-- 2: writes blocks that are there; 1: reads them; 0: neither. -/
def XOp.kd : XOp → Nat
  | .store .. | .app .. | .call .. | .callv .. | .bsl .. | .bsf .. => 2
  | .load .. | .iaS .. | .len .. | .bts .. => 1
  | _ => 0
def maskOf (acc b : List Nat) : Nat := b.foldr (fun p s => 2 ^ p ||| acc.getD p 0 ||| s) 0
def masks : List XO → List Nat → List Nat
  | [], acc => acc
  | o :: r, acc => masks r (acc ++ [maskOf acc o.bef])
def statD (xs : List XO) : Bool := let M := masks xs []; (List.range xs.length).all fun i => match xs[i]? with
  | some oi => oi.op.xs.all X.ok && oi.bef.all (fun p => decide (p < i)) && (List.range i).all fun j => (M.getD i 0).testBit j || (match xs[j]? with | some oj => oj.apart oi | none => true)
  | none => true
def mkPrs (xs : List XO) : List (Nat × Nat) := let M := masks xs []; (List.range xs.length).flatMap fun i => match xs[i]? with
  | some oi => (List.range i).flatMap fun j => match xs[j]? with
    | some oj => if !(M.getD i 0).testBit j && ((oi.op.kd == 2 && oj.op.kd != 0) || (oj.op.kd == 2 && oi.op.kd != 0)) then [(j, i)] else []
    | none => []
  | none => []
def iter (f : St → Option (Ex × St)) : Nat → St → Option (Ex × St)
  | 0, _ => none
  | n + 1, s => (f s).bind fun r => match r.1 with
    | .nrm => iter f n r.2
    | x => some (x, r.2)
def evC (md : Nat → Bool) (C : Calls1) (n : Nat) : XC → St → Option (Ex × St)
  | .skip, s => some (.nrm, s)
  | .reg draw prs ops, s => if draw then (evOpsD md C s.k true ops ⟨s.e, s.h, s.k + W8 * ops.length⟩).bind fun z => if prsOk z.1 prs then some (.nrm, z.2) else none
    else (evOps md C s.k ops ⟨s.e, s.h, s.k + W8 * ops.length⟩).bind fun s' => some (.nrm, s')
  | .seq a b, s => (evC md C n a s).bind fun r => match r.1 with
    | .nrm => evC md C n b r.2
    | x => some (x, r.2)
  | .cond x a b, s => (asB (x.ev s.e)).bind fun t => if t then evC md C n a s else evC md C n b s
  | .blk id a, s => (evC md C n a s).bind fun r => match r.1 with
    | .exit j => if j = id then some (.nrm, r.2) else some (.exit j, r.2)
    | x => some (x, r.2)
  | .loop a, s => iter (evC md C n a) n s
  | .exit id, s => some (.exit id, s)
  | .ret, s => some (.ret, s)
def envOf : List D → Env
  | [] => fun _ => .und
  | d :: r => fun i => match i with
    | 0 => d
    | i + 1 => envOf r i
def resOf (s : St) : List (Nat × Option (Nat × Bool)) → Option (List D)
  | [] => some []
  | (t, none) :: r => (resOf s r).bind fun q => some (s.e t :: q)
  | (t, some (n, ag)) :: r => (cellsAt s.h n (s.e t)).bind fun cs => (mkD ag cs).bind fun d => (resOf s r).bind fun q => some (d :: q)
def runF (xp : Nat → Option XF) (md : Nat → Bool) : Nat → Calls1
  | 0 => fun _ _ _ _ => none
  | n + 1 => fun f args h k => (xp f).bind fun F => if F.nt < args.length then none else (evC md (runF xp md n) n F.body ⟨envOf args, h, k⟩).bind fun r => match r.1 with
    | .exit _ => none
    | _ => (resOf r.2 F.res).bind fun ds => some (ds, r.2.h, r.2.k)
end Go.Proofs.Ytbpccdengeakgaa.AE
