/-
  Steps of a walk through AE's functions of this seat.
-/
import Derived.Test.YtbpccdengeakgaaAE21
import Derived.Test.YtbpccdengeakgaaFns
set_option linter.unusedVariables false
set_option linter.unusedSimpArgs false
namespace Go.Proofs.Ytbpccdengeakgaa.AE
open Go Go.RowKit
theorem toList_beq (a b : ByteArray) : (a.toList == b.toList) = decide (a = b) := by
  by_cases h : a = b
  · subst h; simp
  · rw [decide_eq_false h]
    refine beq_false_of_ne fun h' => h ?_
    have h2 : a.data.toList = b.data.toList := by rw [← ByteArray.toList_eq, ← ByteArray.toList_eq]; exact h'
    cases a; cases b
    simpa using h2
theorem ibeq (a b : Int) : (a == b) = decide (a = b) := by
  by_cases h : a = b
  · subst h; simp
  · rw [decide_eq_false h]; exact beq_false_of_ne h
theorem ibne (a b : Int) : (a != b) = !decide (a = b) := by unfold bne; rw [ibeq]
theorem bbeq (a b : Bool) : (a == b) = decide (a = b) := by cases a <;> cases b <;> rfl
def cellsOb (n : Nat) (o i : Nat) : Ob → Option (List D)
  | .var cs _ => if i = 0 then sub cs o n else none
  | .row _ _ xs _ => match xs[i]? with
    | some x => sub x o n
    | none => none
  | _ => none
theorem cellsAt_ptr (h : Hp) (n l i o : Nat) : cellsAt h n (.ptr l i o) = cellsOb n o i (h l) := by
  simp only [cellsAt]
  cases h l <;> rfl
def putOb (h : Hp) (n l i o : Nat) (ds : List D) : Ob → Option Hp
  | .var cs true => if i = 0 ∧ o + n ≤ cs.length ∧ ds.length = n then some (hput h l (.var (spl cs o ds) true)) else none
  | .row e sz xs true => match xs[i]? with
    | some x => if o + n ≤ x.length ∧ ds.length = n ∧ ds.all D.imF then some (hput h l (.row e sz (xs.set i (spl x o ds)) true)) else none
    | none => none
  | _ => none
theorem putAt_ptr (h : Hp) (n l i o : Nat) (ds : List D) : putAt h n ds (.ptr l i o) = putOb h n l i o ds (h l) := by
  simp only [putAt]
  cases h l with
  | var cs b => cases b <;> rfl
  | row e sz xs b => cases b <;> rfl
  | _ => rfl
def rowOb : Ob → Option (List (List D))
  | .row _ _ xs _ => some xs
  | _ => none
theorem elems_osl (h : Hp) (l : Nat) : elems h (.osl l) = rowOb (h l) := by
  simp only [elems]
  cases h l <;> rfl
def iaOb (l sz j : Nat) (h : Hp) : Ob → Option (D × Hp)
  | .row _ sz' xs _ => if sz' = sz ∧ j < xs.length then some (.ptr l j 0, h) else none
  | _ => none
def iaD (h : Hp) (sz j : Nat) : D → Option (D × Hp)
  | .isl xs => match xs[j]? with
    | some y => if y.length = sz then some (.ipt y 0, h) else none
    | none => none
  | .osl l => iaOb l sz j h (h l)
  | _ => none
section
variable (e : Env) (h : Hp) (k : Nat)
theorem evP_iaS (sz : Nat) (x i : X) : evP e h k (.iaS sz x i) = (asI (i.ev e)).bind fun j => if 0 ≤ j then iaD h sz j.toNat (x.ev e) else none := by
  simp only [evP]
  congr 1
def ixD (h : Hp) (j : Int) : D → Option (D × Hp)
  | .str s => if h0 : 0 ≤ j ∧ j.toNat < s.size then some (.int .u8 (s[j.toNat]'h0.2).toNat, h) else none
  | _ => none
theorem evP_ixS (x i : X) : evP e h k (.ixS x i) = (asI (i.ev e)).bind fun j => ixD h j (x.ev e) := by
  simp only [evP]
  congr 1
def fadD (h : Hp) (off : Nat) : D → Option (D × Hp)
  | .ipt cs o => some (.ipt cs (o + off), h)
  | .ptr l i o => some (.ptr l i (o + off), h)
  | _ => none
theorem evP_fad (off : Nat) (x : X) : evP e h k (.fad off x) = fadD h off (x.ev e) := by
  simp only [evP]
  all_goals (cases x.ev e <;> rfl)
def iaAD (h : Hp) (sz j : Nat) : D → Option (D × Hp)
  | .ipt cs o => some (.ipt cs (o + j * sz), h)
  | .ptr l i o => some (.ptr l i (o + j * sz), h)
  | _ => none
theorem evP_iaA (n sz : Nat) (x i : X) : evP e h k (.iaA n sz x i) = (asI (i.ev e)).bind fun j => if 0 ≤ j ∧ j < n then iaAD h sz j.toNat (x.ev e) else none := by
  simp only [evP]
  congr 1
def fldD (h : Hp) (n : Nat) (ag : Bool) (off : Nat) : D → Option (D × Hp)
  | .agg cs => (sub cs off n).bind fun ds => (mkD ag ds).bind fun d => some (d, h)
  | _ => none
theorem evP_fld (n : Nat) (ag : Bool) (off : Nat) (x : X) : evP e h k (.fld n ag off x) = fldD h n ag off (x.ev e) := by
  simp only [evP]
  all_goals (cases x.ev e <;> rfl)
def extD (h : Hp) (j : Nat) : D → Option (D × Hp)
  | .tup cs => cs[j]?.bind fun d => some (d, h)
  | _ => none
theorem evP_ext (x : X) (j : Nat) : evP e h k (.ext x j) = extD h j (x.ev e) := by
  simp only [evP]
  all_goals (cases x.ev e <;> rfl)
def lenD : D → Option D
  | .str s => some (.int .i64 s.size)
  | _ => none
theorem evP_lenS (x : X) : evP e h k (.len true x) = (lenD (x.ev e)).bind fun d => some (d, h) := by
  simp only [evP, if_true]
  cases x.ev e <;> rfl
theorem evP_lenL (x : X) : evP e h k (.len false x) = (elems h (x.ev e)).bind fun xs => some (.int .i64 xs.length, h) := rfl
def eqsD (h : Hp) (neg : Bool) (ks : List Nat) : D → D → Option (D × Hp)
  | .agg cs, .agg ds => (eqL ks cs ds).bind fun t => some (.bool (if neg then !t else t), h)
  | _, _ => none
theorem evP_eqs (neg : Bool) (ks : List Nat) (x y : X) : evP e h k (.eqs neg ks x y) = eqsD h neg ks (x.ev e) (y.ev e) := by
  simp only [evP]
  all_goals (cases x.ev e <;> cases y.ev e <;> rfl)
def appOb (h : Hp) (k l t sz by_ : Nat) (ys : List (List D)) : Ob → Option (D × Hp)
  | .row t' sz' xs true => if t' = t ∧ sz' = sz ∧ LimA by_ (xs.length + ys.length) ∧ (ys.all fun y => decide (y.length = sz)) then some (.osl k, hput (hput h l .no) k (.row t sz (xs ++ ys) true)) else none
  | _ => none
def appD (h : Hp) (k t sz by_ : Nat) (ys : List (List D)) : D → Option (D × Hp)
  | .nls => if LimA by_ ys.length ∧ (ys.all fun y => decide (y.length = sz)) then some (.osl k, hput h k (.row t sz ys true)) else none
  | .osl l => appOb h k l t sz by_ ys (h l)
  | _ => none
theorem evP_app (t sz by_ : Nat) (x y : X) : evP e h k (.app t sz by_ x y) = (elems h (y.ev e)).bind fun ys => appD h k t sz by_ ys (x.ev e) := by
  simp only [evP]
  congr 1
def slSD (h : Hp) (a : Option Nat) (b : Nat → Option Nat) : D → Option (D × Hp)
  | .str s => a.bind fun a => (b s.size).bind fun b => if a ≤ b ∧ b ≤ s.size then some (.str (s.extract a b), h) else none
  | _ => none
theorem evP_slS (x : X) (lo hi : Option X) : evP e h k (.slS x lo hi) = slSD h (bnd e 0 lo) (fun n => bnd e n hi) (x.ev e) := by
  simp only [evP]
  all_goals (cases x.ev e <;> rfl)
def mgetOb (z : D) (s : ByteArray) (h : Hp) : Ob → Option (D × Hp)
  | .mp es => some ((mfind s es).getD z, h)
  | _ => none
def mgetD (h : Hp) (z : D) : D → D → Option (D × Hp)
  | .mpr l, .str s => mgetOb z s h (h l)
  | _, _ => none
theorem evP_mget (z : D) (x i : X) : evP e h k (.mget z x i) = mgetD h z (x.ev e) (i.ev e) := by
  simp only [evP]
  cases x.ev e <;> rfl
def mputOb (h : Hp) (l : Nat) (s : ByteArray) (v : D) : Ob → Option (D × Hp)
  | .mp es => if v.leaf ∧ v.im then some (.und, hput h l (.mp (mset s v es))) else none
  | _ => none
def mputD (h : Hp) (v : D) : D → D → Option (D × Hp)
  | .mpr l, .str s => mputOb h l s v (h l)
  | _, _ => none
theorem evP_mput (x i y : X) : evP e h k (.mput x i y) = mputD h (y.ev e) (x.ev e) (i.ev e) := by
  simp only [evP]
  cases x.ev e <;> rfl
theorem evP_bsf (t sz : Nat) (z : List D) (n : Nat) (ps : List (Nat × X)) : evP e h k (.bsf t sz z n ps) = (frzL (fun h d => frz 9 h d) h (ps.map fun p => p.2.ev e)).bind fun q => (fillR sz (List.replicate n z) ((ps.map (·.1)).zip q.1)).bind fun xs => some (.isl xs, hput q.2 k (.row t sz xs false)) := rfl
theorem evP_bdf (z : List D) (ps : List (Nat × Nat × X)) : evP e h k (.bdf z ps) = (fillD z (ps.map fun p => (p.1, p.2.1, p.2.2.ev e))).bind fun cs => frz 9 h (.agg cs) := rfl
theorem evP_cvi (kd : IntKind) (x : X) : evP e h k (.cvi kd x) = (asI (x.ev e)).bind fun n => some (.int kd (kd.wrap n), h) := rfl
theorem evP_ibs (x y : X) : evP e h k (.ibs x y) = (ibsD (x.ev e) (y.ev e)).bind fun d => some (d, h) := rfl
theorem evP_bts (x : X) : evP e h k (.bts x) = (elems h (x.ev e)).bind fun xs => (bytD xs).bind fun ns => some (.str (strOfNums ns), h) := rfl
theorem evP_mm (hi : Bool) (x y : X) : evP e h k (.mm hi x y) = (mmD hi (x.ev e) (y.ev e)).bind fun d => some (d, h) := rfl
def nilcD (h : Hp) : D → Option (D × Hp)
  | .ipt cs o => some (.ipt cs o, h)
  | .ptr l i o => some (.ptr l i o, h)
  | _ => none
theorem evP_nilc (x : X) : evP e h k (.nilc x) = nilcD h (x.ev e) := by
  simp only [evP]
  all_goals (cases x.ev e <;> rfl)
end
theorem mkD_t (cs : List D) : mkD true cs = some (.agg cs) := rfl
theorem mkD_f (d : D) : mkD false [d] = some d := rfl
theorem fillD_cons (cs : List D) (off n : Nat) (d : D) (r : List (Nat × Nat × D)) : fillD cs ((off, n, d) :: r) = d.cells.bind fun ds => if ds.length = n ∧ off + n ≤ cs.length then fillD (spl cs off ds) r else none := by
  rw [fillD]
  cases d.cells <;> rfl
theorem cells_agg (cs : List D) : D.cells (.agg cs) = if cs.all D.leaf then some cs else none := rfl
theorem bin_lss (bt : Bool) (k : IntKind) (a b : Int) : binD bt .lss (.int k a) (.int k b) = some (.bool (decide (a < b))) := by simp [binD]
theorem bin_leq (bt : Bool) (k : IntKind) (a b : Int) : binD bt .leq (.int k a) (.int k b) = some (.bool (decide (a ≤ b))) := by simp [binD]
theorem bin_gtr (bt : Bool) (k : IntKind) (a b : Int) : binD bt .gtr (.int k a) (.int k b) = some (.bool (decide (b < a))) := by simp [binD]
theorem bin_geq (bt : Bool) (k : IntKind) (a b : Int) : binD bt .geq (.int k a) (.int k b) = some (.bool (decide (b ≤ a))) := by simp [binD]
theorem bin_eql (bt : Bool) (k : IntKind) (a b : Int) : binD bt .eql (.int k a) (.int k b) = some (.bool (decide (a = b))) := by simp [binD, ibeq]
theorem bin_neq (bt : Bool) (k : IntKind) (a b : Int) : binD bt .neq (.int k a) (.int k b) = some (.bool (!decide (a = b))) := by simp [binD, ibne]
theorem bin_add (bt : Bool) (k : IntKind) (a b : Int) : binD bt .add (.int k a) (.int k b) = some (.int k (k.wrap (a + b))) := by simp [binD]
theorem bin_sub (bt : Bool) (k : IntKind) (a b : Int) : binD bt .sub (.int k a) (.int k b) = some (.int k (k.wrap (a - b))) := by simp [binD]
theorem bin_mul (bt : Bool) (k : IntKind) (a b : Int) : binD bt .mul (.int k a) (.int k b) = some (.int k (k.wrap (a * b))) := by simp [binD]
theorem bin_seq (bt : Bool) (a b : ByteArray) : binD bt .eql (.str a) (.str b) = some (.bool (decide (a = b))) := by simp only [binD, toList_beq]
theorem bin_sne (bt : Bool) (a b : ByteArray) : binD bt .neq (.str a) (.str b) = some (.bool (!decide (a = b))) := by simp only [binD, toList_beq]
theorem bin_beq (a b : Bool) : binD true .eql (.bool a) (.bool b) = some (.bool (decide (a = b))) := by simp [binD, bbeq]
theorem bin_bne (a b : Bool) : binD true .neq (.bool a) (.bool b) = some (.bool (!decide (a = b))) := by simp [binD, bbeq]
theorem un_not (b : Bool) : unD .not (.bool b) = some (.bool !b) := rfl
theorem inc64 (j : Nat) (hj : j < 4611686018427387904) : IntKind.i64.wrap ((j : Int) + 1) = ((j + 1 : Nat) : Int) := by
  rw [wrapN (by omega) (by omega)]; omega
section
variable (e : Env) (h : Hp) (k : Nat)
theorem evP_mv (x : X) : evP e h k (.mv x) = some (x.ev e, h) := rfl
theorem evP_pick (c a b : X) : evP e h k (.pick c a b) = (asB (c.ev e)).bind fun t => some (if t = true then a.ev e else b.ev e, h) := rfl
theorem evP_alloc (z : List D) : evP e h k (.alloc z) = some (.ptr k 0 0, hput h k (.var z true)) := rfl
theorem evP_box (n : Nat) (x : X) : evP e h k (.box n x) = (x.ev e).cells.bind fun cs => if cs.length = n then some (.ptr k 0 0, hput h k (.var cs true)) else none := rfl
theorem evP_build (z : List D) (ps : List (Nat × Nat × X)) : evP e h k (.build z ps) = (fillD z (ps.map fun p => (p.1, p.2.1, p.2.2.ev e))).bind fun cs => some (.agg cs, h) := rfl
theorem evP_bsl (t sz : Nat) (z : List D) (n : Nat) (ps : List (Nat × X)) : evP e h k (.bsl t sz z n ps) = (frzL (fun h d => frz 9 h d) h (ps.map fun p => p.2.ev e)).bind fun q => (fillR sz (List.replicate n z) ((ps.map (·.1)).zip q.1)).bind fun xs => some (.osl k, hput q.2 k (.row t sz xs true)) := rfl
theorem evP_load (n : Nat) (ag : Bool) (x : X) : evP e h k (.load n ag x) = (cellsAt h n (x.ev e)).bind fun cs => (mkD ag cs).bind fun d => some (d, h) := rfl
theorem evP_store (n : Nat) (x y : X) : evP e h k (.store n x y) = (y.ev e).cells.bind fun cs => (putAt h n cs (x.ev e)).bind fun h' => some (.und, h') := rfl
theorem evP_bin (bt : Bool) (op : BinOp) (x y : X) : evP e h k (.bin bt op x y) = (binD bt op (x.ev e) (y.ev e)).bind fun d => some (d, h) := rfl
theorem evP_un (op : UnOp) (x : X) : evP e h k (.un op x) = (unD op (x.ev e)).bind fun d => some (d, h) := rfl
theorem evP_mkfn (f : Nat) (xs : List X) : evP e h k (.mkfn f xs) = some (.fn f (xs.map (X.ev e)), h) := rfl
theorem evP_mks (t sz by_ : Nat) (z : List D) (x y : X) : evP e h k (.mks t sz by_ z x y) = (asN (x.ev e)).bind fun n => (asN (y.ev e)).bind fun m => if n = m ∧ n ≤ Lim then some (.osl k, hput h k (.row t sz (List.replicate n z) true)) else none := rfl
theorem evP_mkmap : evP e h k .mkmap = some (.mpr k, hput h k (.mp [])) := rfl
end
theorem cells_int (k : IntKind) (n : Int) : D.cells (.int k n) = some [.int k n] := rfl
theorem cells_bool (n : Bool) : D.cells (.bool n) = some [.bool n] := rfl
theorem cells_str (n : ByteArray) : D.cells (.str n) = some [.str n] := rfl
theorem cells_isl (n : List (List D)) : D.cells (.isl n) = some [.isl n] := rfl
theorem cells_nls : D.cells .nls = some [.nls] := rfl
theorem cells_nlf : D.cells .nlf = some [.nlf] := rfl
theorem cells_fn (f : Nat) (n : List D) : D.cells (.fn f n) = some [.fn f n] := rfl
theorem cells_osl (l : Nat) : D.cells (.osl l) = some [.osl l] := rfl
theorem cells_mpr (l : Nat) : D.cells (.mpr l) = some [.mpr l] := rfl
theorem cells_ptr (l i o : Nat) : D.cells (.ptr l i o) = some [.ptr l i o] := rfl
theorem cells_ipt (n : List D) (o : Nat) : D.cells (.ipt n o) = some [.ipt n o] := rfl
theorem frzL_nil (g : Hp → D → Option (D × Hp)) (h : Hp) : frzL g h [] = some ([], h) := rfl
theorem frzL_cons (g : Hp → D → Option (D × Hp)) (h : Hp) (d : D) (r : List D) : frzL g h (d :: r) = (g h d).bind fun p => (frzL g p.2 r).bind fun q => some (p.1 :: q.1, q.2) := rfl
def frzOb (h : Hp) (l : Nat) : Ob → Option (D × Hp)
  | .row e sz xs _ => some (.isl xs, hput h l (.row e sz xs false))
  | _ => none
theorem frz_osl (n : Nat) (h : Hp) (l : Nat) : frz (n + 1) h (.osl l) = frzOb h l (h l) := by
  simp only [frz]
  cases h l <;> rfl
theorem frz_int (n : Nat) (h : Hp) (k : IntKind) (m : Int) : frz (n + 1) h (.int k m) = some (.int k m, h) := rfl
theorem frz_bool (n : Nat) (h : Hp) (m : Bool) : frz (n + 1) h (.bool m) = some (.bool m, h) := rfl
theorem frz_str (n : Nat) (h : Hp) (m : ByteArray) : frz (n + 1) h (.str m) = some (.str m, h) := rfl
theorem frz_isl (n : Nat) (h : Hp) (m : List (List D)) : frz (n + 1) h (.isl m) = some (.isl m, h) := rfl
theorem frz_ipt (n : Nat) (h : Hp) (m : List D) (o : Nat) : frz (n + 1) h (.ipt m o) = some (.ipt m o, h) := rfl
theorem frz_nls (n : Nat) (h : Hp) : frz (n + 1) h .nls = some (.nls, h) := rfl
theorem frz_nlf (n : Nat) (h : Hp) : frz (n + 1) h .nlf = some (.nlf, h) := rfl
theorem frz_und (n : Nat) (h : Hp) : frz (n + 1) h .und = some (.und, h) := rfl
theorem frz_fn (n : Nat) (h : Hp) (f : Nat) (c : List D) : frz (n + 1) h (.fn f c) = (frzL (frz n) h c).bind fun p => some (.fn f p.1, p.2) := rfl
theorem frz_agg (n : Nat) (h : Hp) (c : List D) : frz (n + 1) h (.agg c) = (frzL (frz n) h c).bind fun p => some (.agg p.1, p.2) := rfl
def frzPt (n : Nat) (h : Hp) (l i o : Nat) : Ob → Option (D × Hp)
  | .var cs _ => if i = 0 then (frzL (frz n) h cs).bind fun p => match p.2 l with
      | .var _ _ => some (.ipt p.1 o, hput p.2 l (.var p.1 false))
      | _ => none
    else none
  | .row e sz xs _ => match xs[i]? with
    | some x => some (.ipt x o, hput h l (.row e sz xs false))
    | none => none
  | _ => none
theorem frz_ptr (n : Nat) (h : Hp) (l i o : Nat) : frz (n + 1) h (.ptr l i o) = frzPt n h l i o (h l) := by
  simp only [frz]
  cases h l <;> rfl
theorem nine : (9 : Nat) = 8 + 1 := rfl
def retOb (h : Hp) (l : Nat) (r : List D) : Ob → Option (List D)
  | .row e sz xs true => (retL (hput h l .no) r).bind fun q => some (.own e sz xs :: q)
  | .row e sz xs false => (retL (hput h l (.row e sz xs false)) r).bind fun q => some (.isl xs :: q)
  | _ => none
theorem retL_nil (h : Hp) : retL h [] = some [] := rfl
theorem retL_osl (h : Hp) (l : Nat) (r : List D) : retL h (.osl l :: r) = retOb h l r (h l) := by
  simp only [retL]
  cases hl : h l with
  | row e sz xs b => cases b <;> simp [retOb, nine, frz_osl, hl, frzOb]
  | _ => simp [retOb, nine, frz_osl, hl, frzOb]
theorem retL_fn (h : Hp) (f : Nat) (c : List D) (r : List D) : retL h (.fn f c :: r) = (frz (8 + 1) h (.fn f c)).bind fun p => (retL p.2 r).bind fun q => some (p.1 :: q) := rfl
theorem eight : (8 : Nat) = 7 + 1 := rfl
theorem retL_int (h : Hp) (k : IntKind) (n : Int) (r : List D) : retL h (.int k n :: r) = (retL h r).bind fun q => some (.int k n :: q) := rfl
theorem retL_bool (h : Hp) (n : Bool) (r : List D) : retL h (.bool n :: r) = (retL h r).bind fun q => some (.bool n :: q) := rfl
theorem retL_str (h : Hp) (n : ByteArray) (r : List D) : retL h (.str n :: r) = (retL h r).bind fun q => some (.str n :: q) := rfl
theorem retL_isl (h : Hp) (n : List (List D)) (r : List D) : retL h (.isl n :: r) = (retL h r).bind fun q => some (.isl n :: q) := rfl
theorem retL_nls (h : Hp) (r : List D) : retL h (.nls :: r) = (retL h r).bind fun q => some (.nls :: q) := rfl
theorem retL_agg (h : Hp) (c : List D) (r : List D) : retL h (.agg c :: r) = (frz 9 h (.agg c)).bind fun p => (retL p.2 r).bind fun q => some (p.1 :: q) := rfl
theorem retL_ptr (h : Hp) (l i o : Nat) (r : List D) : retL h (.ptr l i o :: r) = (frz 9 h (.ptr l i o)).bind fun p => (retL p.2 r).bind fun q => some (p.1 :: q) := rfl
theorem res_nil (s : St) : resOf s [] = some [] := rfl
theorem res_t (s : St) (t : Nat) (r : List (Nat × Option (Nat × Bool))) : resOf s ((t, none) :: r) = (resOf s r).bind fun q => some (s.e t :: q) := rfl
theorem res_c (s : St) (t n : Nat) (ag : Bool) (r : List (Nat × Option (Nat × Bool))) : resOf s ((t, some (n, ag)) :: r) = (cellsAt s.h n (s.e t)).bind fun cs => (mkD ag cs).bind fun d => (resOf s r).bind fun q => some (d :: q) := rfl
theorem ev_t (e : Env) (t : Nat) : X.ev e (.t t) = e t := rfl
theorem ev_c (e : Env) (d : D) : X.ev e (.c d) = d := rfl
theorem hput_at (h : Hp) (k : Nat) (o : Ob) (j : Nat) : hput h k o j = if j = k then o else h j := rfl
theorem env_nil (j : Nat) : envOf [] j = .und := rfl
theorem env_0 (d : D) (r : List D) : envOf (d :: r) 0 = d := rfl
theorem env_s (d : D) (r : List D) (j : Nat) : envOf (d :: r) (j + 1) = envOf r j := rfl
theorem asI_i (k : IntKind) (n : Int) : asI (.int k n) = some n := rfl
theorem asB_b (b : Bool) : asB (.bool b) = some b := rfl
theorem asN_n (n : Nat) : asN (.int .i64 (n : Int)) = some n := by simp [asN]
theorem leaf_int (k : IntKind) (n : Int) : D.leaf (.int k n) = true := rfl
theorem leaf_bool (b : Bool) : D.leaf (.bool b) = true := rfl
theorem leaf_str (b : ByteArray) : D.leaf (.str b) = true := rfl
theorem leaf_isl (b : List (List D)) : D.leaf (.isl b) = true := rfl
theorem leaf_nls  : D.leaf (.nls) = true := rfl
theorem leaf_nlf  : D.leaf (.nlf) = true := rfl
theorem leaf_fn (f : Nat) (b : List D) : D.leaf (.fn f b) = true := rfl
theorem leaf_osl (l : Nat) : D.leaf (.osl l) = true := rfl
theorem leaf_mpr (l : Nat) : D.leaf (.mpr l) = true := rfl
theorem leaf_ptr (l i o : Nat) : D.leaf (.ptr l i o) = true := rfl
theorem leaf_ipt (b : List D) (o : Nat) : D.leaf (.ipt b o) = true := rfl
theorem im_int (k : IntKind) (n : Int) : D.im (.int k n) = true := rfl
theorem nm_int (k : IntKind) (n : Int) : D.nm (.int k n) = [] := rfl
theorem im_bool (b : Bool) : D.im (.bool b) = true := rfl
theorem nm_bool (b : Bool) : D.nm (.bool b) = [] := rfl
theorem im_str (b : ByteArray) : D.im (.str b) = true := rfl
theorem nm_str (b : ByteArray) : D.nm (.str b) = [] := rfl
theorem im_isl (b : List (List D)) : D.im (.isl b) = true := rfl
theorem nm_isl (b : List (List D)) : D.nm (.isl b) = [] := rfl
theorem im_nls  : D.im (.nls) = true := rfl
theorem nm_nls  : D.nm (.nls) = [] := rfl
theorem im_nlf  : D.im (.nlf) = true := rfl
theorem nm_nlf  : D.nm (.nlf) = [] := rfl
theorem im_ipt (b : List D) (o : Nat) : D.im (.ipt b o) = true := rfl
theorem nm_ipt (b : List D) (o : Nat) : D.nm (.ipt b o) = [] := rfl
theorem im_osl (l : Nat) : D.im (.osl l) = false := rfl
theorem nm_osl (l : Nat) : D.nm (.osl l) = [l] := rfl
theorem im_ptr (l i o : Nat) : D.im (.ptr l i o) = false := rfl
theorem mm_max (k : IntKind) (a b : Int) : mmD true (.int k a) (.int k b) = some (.int k (max a b)) := by
  simp only [mmD, if_true]
  congr 2
  omega
theorem mm_min (k : IntKind) (a b : Int) : mmD false (.int k a) (.int k b) = some (.int k (min a b)) := by
  simp only [mmD, if_true, Bool.false_eq_true, if_false]
  congr 2
  omega
theorem any1 (a : Nat) (f : Nat → Bool) : [a].any f = f a := by simp
theorem cont1 (a b : Nat) : [b].contains a = decide (a = b) := by
  by_cases h : a = b <;> simp [h]
theorem im_agg (cs : List D) : D.im (.agg cs) = false := rfl
def aggB : D → Bool
  | .agg cs => cs.all D.im
  | .fn _ cs => cs.all D.im
  | _ => false
def fnB : D → Bool
  | .fn _ cs => cs.all D.im
  | _ => false
theorem imA_eq (d : D) : D.imA d = (d.im || aggB d) := by
  cases d with
  | fn f cs => cases cs <;> rfl
  | _ => simp [D.imA, aggB, D.im]
theorem imF_eq (d : D) : D.imF d = (d.im || fnB d) := by
  cases d with
  | fn f cs => cases cs <;> rfl
  | _ => simp [D.imF, fnB, D.im]
theorem aggB_agg (cs : List D) : aggB (.agg cs) = cs.all D.im := rfl
theorem aggB_fn (f : Nat) (cs : List D) : aggB (.fn f cs) = cs.all D.im := rfl
theorem fnB_fn (f : Nat) (cs : List D) : fnB (.fn f cs) = cs.all D.im := rfl
theorem im_fn (f : Nat) (cs : List D) : D.im (.fn f cs) = cs.isEmpty := rfl
theorem nm_ptr (l i o : Nat) : D.nm (.ptr l i o) = [l] := rfl
theorem nm_mpr (l : Nat) : D.nm (.mpr l) = [l] := rfl
theorem nm_agg (b : List D) : D.nm (.agg b) = [] := rfl
theorem nm_fn (f : Nat) (b : List D) : D.nm (.fn f b) = [] := rfl
theorem cellsAt_ipt (h : Hp) (n : Nat) (cs : List D) (o : Nat) : cellsAt h n (.ipt cs o) = sub cs o n := rfl
theorem elems_isl (h : Hp) (xs : List (List D)) : elems h (.isl xs) = some xs := rfl
theorem elems_nls (h : Hp) : elems h .nls = some [] := rfl
theorem iaD_isl (h : Hp) (sz j : Nat) (xs : List (List D)) : iaD h sz j (.isl xs) = match xs[j]? with
    | some y => if y.length = sz then some (.ipt y 0, h) else none
    | none => none := rfl
theorem iaD_osl (h : Hp) (sz j l : Nat) : iaD h sz j (.osl l) = iaOb l sz j h (h l) := rfl
theorem tk_nil (h : Hp) (k : Nat) : takeIn h k [] = ([], h) := rfl
theorem tk_int (h : Hp) (k : Nat) (i : IntKind) (n : Int) (r : List D) : takeIn h k ((.int i n) :: r) = ((.int i n) :: (takeIn h (k + 1) r).1, (takeIn h (k + 1) r).2) := rfl
theorem tk_bool (h : Hp) (k : Nat) (b : Bool) (r : List D) : takeIn h k ((.bool b) :: r) = ((.bool b) :: (takeIn h (k + 1) r).1, (takeIn h (k + 1) r).2) := rfl
theorem tk_str (h : Hp) (k : Nat) (b : ByteArray) (r : List D) : takeIn h k ((.str b) :: r) = ((.str b) :: (takeIn h (k + 1) r).1, (takeIn h (k + 1) r).2) := rfl
theorem tk_isl (h : Hp) (k : Nat) (b : List (List D)) (r : List D) : takeIn h k ((.isl b) :: r) = ((.isl b) :: (takeIn h (k + 1) r).1, (takeIn h (k + 1) r).2) := rfl
theorem tk_nls (h : Hp) (k : Nat)  (r : List D) : takeIn h k ((.nls) :: r) = ((.nls) :: (takeIn h (k + 1) r).1, (takeIn h (k + 1) r).2) := rfl
theorem tk_nlf (h : Hp) (k : Nat)  (r : List D) : takeIn h k ((.nlf) :: r) = ((.nlf) :: (takeIn h (k + 1) r).1, (takeIn h (k + 1) r).2) := rfl
theorem tk_fn (h : Hp) (k : Nat) (f : Nat) (b : List D) (r : List D) : takeIn h k ((.fn f b) :: r) = ((.fn f b) :: (takeIn h (k + 1) r).1, (takeIn h (k + 1) r).2) := rfl
theorem tk_agg (h : Hp) (k : Nat) (b : List D) (r : List D) : takeIn h k ((.agg b) :: r) = ((.agg b) :: (takeIn h (k + 1) r).1, (takeIn h (k + 1) r).2) := rfl
theorem tk_ipt (h : Hp) (k : Nat) (b : List D) (o : Nat) (r : List D) : takeIn h k ((.ipt b o) :: r) = ((.ipt b o) :: (takeIn h (k + 1) r).1, (takeIn h (k + 1) r).2) := rfl
theorem tk_own (h : Hp) (k e sz : Nat) (xs : List (List D)) (r : List D) : takeIn h k ((.own e sz xs) :: r) = ((.osl k) :: (takeIn (hput h k (.row e sz xs true)) (k + 1) r).1, (takeIn (hput h k (.row e sz xs true)) (k + 1) r).2) := rfl
theorem wr_add1 : IntKind.i64.wrap (0 + 1) = 1 := by decide
theorem wr_m1 : IntKind.i64.wrap (-1 + 1) = 0 := by decide
theorem Lim_eq : Lim = 68719476736 := rfl
theorem LimA_eq (b n : Nat) : LimA b n = (n ≤ 68719476736 ∨ b ≤ 64 ∧ n ≤ 2199023255552) := rfl
theorem eputO_s (e : Env) (t : Nat) (d : D) : eputO e (some t) d = eput e t d := rfl
theorem one_1 (d : D) : one [d] = d := rfl
theorem one_2 (a b : D) (r : List D) : one (a :: b :: r) = .tup (a :: b :: r) := rfl
theorem not_dec (p : Prop) [Decidable p] : (!decide p) = decide (¬ p) := by by_cases h : p <;> simp [h]
theorem if_t {α : Type} (a b : α) : (if true = true then a else b) = a := if_pos rfl
theorem if_f {α : Type} (a b : α) : (if false = true then a else b) = b := if_neg (by simp)
/-! names that data reaches -/
def nmOb (n : Nat) (h : Hp) : Ob → List Nat
  | .var cs _ => cs.flatMap (nmD n h)
  | _ => []
theorem nmN_0 (h : Hp) (d : D) : nmD 0 h d = [] := rfl
theorem nmD_ptr (n : Nat) (h : Hp) (l i o : Nat) : nmD (n + 1) h (.ptr l i o) = l :: nmOb n h (h l) := by
  simp only [nmD]
  cases h l <;> rfl
theorem nmD_osl (n : Nat) (h : Hp) (l : Nat) : nmD (n + 1) h (.osl l) = [l] := rfl
theorem nmD_mpr (n : Nat) (h : Hp) (l : Nat) : nmD (n + 1) h (.mpr l) = [l] := rfl
theorem nmD_agg (n : Nat) (h : Hp) (cs : List D) : nmD (n + 1) h (.agg cs) = cs.flatMap (nmD n h) := rfl
theorem nmD_fn (n : Nat) (h : Hp) (f : Nat) (cs : List D) : nmD (n + 1) h (.fn f cs) = cs.flatMap (nmD n h) := rfl
theorem nmD_int (n : Nat) (h : Hp) (k : IntKind) (m : Int) : nmD n h (.int k m) = [] := by cases n <;> rfl
theorem nmD_bool (n : Nat) (h : Hp) (m : Bool) : nmD n h (.bool m) = [] := by cases n <;> rfl
theorem nmD_str (n : Nat) (h : Hp) (m : ByteArray) : nmD n h (.str m) = [] := by cases n <;> rfl
theorem nmD_isl (n : Nat) (h : Hp) (m : List (List D)) : nmD n h (.isl m) = [] := by cases n <;> rfl
theorem nmD_ipt (n : Nat) (h : Hp) (m : List D) (o : Nat) : nmD n h (.ipt m o) = [] := by cases n <;> rfl
theorem nmD_nls (n : Nat) (h : Hp) : nmD n h .nls = [] := by cases n <;> rfl
theorem nmD_nlf (n : Nat) (h : Hp) : nmD n h .nlf = [] := by cases n <;> rfl
theorem nmD_und (n : Nat) (h : Hp) : nmD n h .und = [] := by cases n <;> rfl
theorem nmD_im {n : Nat} {h : Hp} {d : D} (hd : d.im = true) : nmD n h d = [] := by
  cases n with
  | zero => rfl
  | succ n =>
    cases d <;> first | rfl | (cases hd; done) | skip
    rename_i f cs
    have : cs = [] := by simpa [D.im] using hd
    subst this
    rfl
theorem nmF_im {n : Nat} {h : Hp} {cs : List D} (hd : cs.all D.im = true) : cs.flatMap (nmD n h) = [] := by
  induction cs with
  | nil => rfl
  | cons c r ih =>
    simp only [List.all_cons, Bool.and_eq_true] at hd
    rw [List.flatMap_cons, nmD_im hd.1, ih hd.2]; rfl
theorem here_row (e sz : Nat) (xs : List (List D)) (q : Bool) : (Ob.row e sz xs q).here = true := rfl
theorem here_var (cs : List D) (q : Bool) : (Ob.var cs q).here = true := rfl
theorem here_mp (es : List (ByteArray × D)) : (Ob.mp es).here = true := rfl
def tcR (rb : Bool) (T : List Nat) : List Nat × List Nat := if rb then (T, []) else ([], T)
theorem tcR_f (T : List Nat) : tcR false T = ([], T) := rfl
theorem tcR_t (T : List Nat) : tcR true T = (T, []) := rfl
theorem rdr_f {md : Nat → Bool} {f : Nat} (h : rdr md f = false) : rdr md f = false := h
theorem rdr_t {md : Nat → Bool} {f : Nat} (h : rdr md f = true) : rdr md f = true := h
end Go.Proofs.Ytbpccdengeakgaa.AE
