/-
  Steps of a walk through AE's functions of this seat.
-/
import Derived.Test.YtpdamhhaepcffaaMB
import Derived.Test.YtpdamhhaepcffaaMZ
import Derived.WalkKit
set_option linter.unusedVariables false
set_option linter.unusedSimpArgs false
namespace Go.Proofs.Ytpdamhhaepcffaa.AE
open Go Go.RowKit
theorem toList_beq (a b : ByteArray) : (a.toList == b.toList) = decide (a = b) := by
  by_cases h : a = b
  · subst h; simp
  · rw [decide_eq_false h]
    refine beq_false_of_ne fun h' => h ?_
    have h2 : a.data.toList = b.data.toList := by rw [← ByteArray.toList_eq, ← ByteArray.toList_eq]; exact h'
    cases a; cases b
    simpa using h2
theorem ibeq (a b : Int) : (a == b) = decide (a = b) := by
  by_cases h : a = b
  · subst h; simp
  · rw [decide_eq_false h]; exact beq_false_of_ne h
theorem ibne (a b : Int) : (a != b) = !decide (a = b) := by unfold bne; rw [ibeq]
theorem bbeq (a b : Bool) : (a == b) = decide (a = b) := by cases a <;> cases b <;> rfl
def cellsOb (n : Nat) (o i : Nat) : Ob → Option (List D)
  | .var cs _ => if i = 0 then sub cs o n else none
  | .row _ _ xs _ => match xs[i]? with
    | some x => sub x o n
    | none => none
  | _ => none
theorem cellsAt_ptr (h : Hp) (n l i o : Nat) : cellsAt h n (.ptr l i o) = cellsOb n o i (h l) := by
  simp only [cellsAt]
  cases h l <;> rfl
def putOb (h : Hp) (n l i o : Nat) (ds : List D) : Ob → Option Hp
  | .var cs true => if i = 0 ∧ o + n ≤ cs.length ∧ ds.length = n then some (hput h l (.var (spl cs o ds) true)) else none
  | .row e sz xs true => match xs[i]? with
    | some x => if o + n ≤ x.length ∧ ds.length = n ∧ ds.all D.imF then some (hput h l (.row e sz (xs.set i (spl x o ds)) true)) else none
    | none => none
  | _ => none
theorem putAt_ptr (h : Hp) (n l i o : Nat) (ds : List D) : putAt h n ds (.ptr l i o) = putOb h n l i o ds (h l) := by
  simp only [putAt]
  cases h l with
  | var cs b => cases b <;> rfl
  | row e sz xs b => cases b <;> rfl
  | _ => rfl
def rowOb : Ob → Option (List (List D))
  | .row _ _ xs _ => some xs
  | _ => none
theorem elems_osl (h : Hp) (l : Nat) : elems h (.osl l) = rowOb (h l) := by
  simp only [elems]
  cases h l <;> rfl
def iaOb (l sz j : Nat) (h : Hp) : Ob → Option (D × Hp)
  | .row _ sz' xs _ => if sz' = sz ∧ j < xs.length then some (.ptr l j 0, h) else none
  | _ => none
def iaD (h : Hp) (sz j : Nat) : D → Option (D × Hp)
  | .isl xs => match xs[j]? with
    | some y => if y.length = sz then some (.ipt y 0, h) else none
    | none => none
  | .osl l => iaOb l sz j h (h l)
  | _ => none
section
variable (e : Env) (h : Hp) (k : Nat)
theorem evP_iaS (sz : Nat) (x i : X) : evP e h k (.iaS sz x i) = (asI (i.ev e)).bind fun j => if 0 ≤ j then iaD h sz j.toNat (x.ev e) else none := by
  simp only [evP]
  congr 1
def ixD (h : Hp) (j : Int) : D → Option (D × Hp)
  | .str s => if h0 : 0 ≤ j ∧ j.toNat < s.size then some (.int .u8 (s[j.toNat]'h0.2).toNat, h) else none
  | _ => none
theorem evP_ixS (x i : X) : evP e h k (.ixS x i) = (asI (i.ev e)).bind fun j => ixD h j (x.ev e) := by
  simp only [evP]
  congr 1
def fadD (h : Hp) (off : Nat) : D → Option (D × Hp)
  | .ipt cs o => some (.ipt cs (o + off), h)
  | .ptr l i o => some (.ptr l i (o + off), h)
  | _ => none
theorem evP_fad (off : Nat) (x : X) : evP e h k (.fad off x) = fadD h off (x.ev e) := by
  simp only [evP]
  all_goals (cases x.ev e <;> rfl)
def iaAD (h : Hp) (sz j : Nat) : D → Option (D × Hp)
  | .ipt cs o => some (.ipt cs (o + j * sz), h)
  | .ptr l i o => some (.ptr l i (o + j * sz), h)
  | _ => none
theorem evP_iaA (n sz : Nat) (x i : X) : evP e h k (.iaA n sz x i) = (asI (i.ev e)).bind fun j => if 0 ≤ j ∧ j < n then iaAD h sz j.toNat (x.ev e) else none := by
  simp only [evP]
  congr 1
def fldD (h : Hp) (n : Nat) (ag : Bool) (off : Nat) : D → Option (D × Hp)
  | .agg cs => (sub cs off n).bind fun ds => (mkD ag ds).bind fun d => some (d, h)
  | _ => none
theorem evP_fld (n : Nat) (ag : Bool) (off : Nat) (x : X) : evP e h k (.fld n ag off x) = fldD h n ag off (x.ev e) := by
  simp only [evP]
  all_goals (cases x.ev e <;> rfl)
def extD (h : Hp) (j : Nat) : D → Option (D × Hp)
  | .tup cs => cs[j]?.bind fun d => some (d, h)
  | _ => none
theorem evP_ext (x : X) (j : Nat) : evP e h k (.ext x j) = extD h j (x.ev e) := by
  simp only [evP]
  all_goals (cases x.ev e <;> rfl)
def lenD : D → Option D
  | .str s => some (.int .i64 s.size)
  | _ => none
theorem evP_lenS (x : X) : evP e h k (.len true x) = (lenD (x.ev e)).bind fun d => some (d, h) := by
  simp only [evP, if_true]
  cases x.ev e <;> rfl
theorem evP_lenL (x : X) : evP e h k (.len false x) = (elems h (x.ev e)).bind fun xs => some (.int .i64 xs.length, h) := rfl
def eqsD (h : Hp) (neg : Bool) (ks : List Nat) : D → D → Option (D × Hp)
  | .agg cs, .agg ds => (eqL ks cs ds).bind fun t => some (.bool (if neg then !t else t), h)
  | _, _ => none
theorem evP_eqs (neg : Bool) (ks : List Nat) (x y : X) : evP e h k (.eqs neg ks x y) = eqsD h neg ks (x.ev e) (y.ev e) := by
  simp only [evP]
  all_goals (cases x.ev e <;> cases y.ev e <;> rfl)
def appOb (h : Hp) (k l t sz by_ : Nat) (ys : List (List D)) : Ob → Option (D × Hp)
  | .row t' sz' xs true => if t' = t ∧ sz' = sz ∧ LimA by_ (xs.length + ys.length) ∧ (ys.all fun y => decide (y.length = sz)) then some (.osl k, hput (hput h l .no) k (.row t sz (xs ++ ys) true)) else none
  | _ => none
def appD (h : Hp) (k t sz by_ : Nat) (ys : List (List D)) : D → Option (D × Hp)
  | .nls => if LimA by_ ys.length ∧ (ys.all fun y => decide (y.length = sz)) then some (.osl k, hput h k (.row t sz ys true)) else none
  | .osl l => appOb h k l t sz by_ ys (h l)
  | _ => none
theorem evP_app (t sz by_ : Nat) (x y : X) : evP e h k (.app t sz by_ x y) = (elems h (y.ev e)).bind fun ys => appD h k t sz by_ ys (x.ev e) := by
  simp only [evP]
  congr 1
def slSD (h : Hp) (a : Option Nat) (b : Nat → Option Nat) : D → Option (D × Hp)
  | .str s => a.bind fun a => (b s.size).bind fun b => if a ≤ b ∧ b ≤ s.size then some (.str (s.extract a b), h) else none
  | _ => none
theorem evP_slS (x : X) (lo hi : Option X) : evP e h k (.slS x lo hi) = slSD h (bnd e 0 lo) (fun n => bnd e n hi) (x.ev e) := by
  simp only [evP]
  all_goals (cases x.ev e <;> rfl)
def mgetOb (z : D) (s : ByteArray) (h : Hp) : Ob → Option (D × Hp)
  | .mp es => some ((mfind s es).getD z, h)
  | _ => none
def mgetD (h : Hp) (z : D) : D → D → Option (D × Hp)
  | .mpr l, .str s => mgetOb z s h (h l)
  | _, _ => none
theorem evP_mget (z : D) (x i : X) : evP e h k (.mget z x i) = mgetD h z (x.ev e) (i.ev e) := by
  simp only [evP]
  cases x.ev e <;> rfl
def mputOb (h : Hp) (l : Nat) (s : ByteArray) (v : D) : Ob → Option (D × Hp)
  | .mp es => if v.leaf ∧ v.im then some (.und, hput h l (.mp (mset s v es))) else none
  | _ => none
def mputD (h : Hp) (v : D) : D → D → Option (D × Hp)
  | .mpr l, .str s => mputOb h l s v (h l)
  | _, _ => none
theorem evP_mput (x i y : X) : evP e h k (.mput x i y) = mputD h (y.ev e) (x.ev e) (i.ev e) := by
  simp only [evP]
  cases x.ev e <;> rfl
theorem evP_bsf (t sz : Nat) (z : List D) (n : Nat) (ps : List (Nat × X)) : evP e h k (.bsf t sz z n ps) = (frzL (fun h d => frz 9 h d) h (ps.map fun p => p.2.ev e)).bind fun q => (fillR sz (List.replicate n z) ((ps.map (·.1)).zip q.1)).bind fun xs => some (.isl xs, hput q.2 k (.row t sz xs false)) := rfl
theorem evP_bdf (z : List D) (ps : List (Nat × Nat × X)) : evP e h k (.bdf z ps) = (fillD z (ps.map fun p => (p.1, p.2.1, p.2.2.ev e))).bind fun cs => frz 9 h (.agg cs) := rfl
theorem evP_cvi (kd : IntKind) (x : X) : evP e h k (.cvi kd x) = (asI (x.ev e)).bind fun n => some (.int kd (kd.wrap n), h) := rfl
theorem evP_mm (hi : Bool) (x y : X) : evP e h k (.mm hi x y) = (mmD hi (x.ev e) (y.ev e)).bind fun d => some (d, h) := rfl
def nilcD (h : Hp) : D → Option (D × Hp)
  | .ipt cs o => some (.ipt cs o, h)
  | .ptr l i o => some (.ptr l i o, h)
  | _ => none
theorem evP_nilc (x : X) : evP e h k (.nilc x) = nilcD h (x.ev e) := by
  simp only [evP]
  all_goals (cases x.ev e <;> rfl)
end
theorem mkD_t (cs : List D) : mkD true cs = some (.agg cs) := rfl
theorem mkD_f (d : D) : mkD false [d] = some d := rfl
theorem fillD_cons (cs : List D) (off n : Nat) (d : D) (r : List (Nat × Nat × D)) : fillD cs ((off, n, d) :: r) = d.cells.bind fun ds => if ds.length = n ∧ off + n ≤ cs.length then fillD (spl cs off ds) r else none := by
  rw [fillD]
  cases d.cells <;> rfl
theorem cells_agg (cs : List D) : D.cells (.agg cs) = if cs.all D.leaf then some cs else none := rfl
theorem bin_lss (bt : Bool) (k : IntKind) (a b : Int) : binD bt .lss (.int k a) (.int k b) = some (.bool (decide (a < b))) := by simp [binD]
theorem bin_leq (bt : Bool) (k : IntKind) (a b : Int) : binD bt .leq (.int k a) (.int k b) = some (.bool (decide (a ≤ b))) := by simp [binD]
theorem bin_gtr (bt : Bool) (k : IntKind) (a b : Int) : binD bt .gtr (.int k a) (.int k b) = some (.bool (decide (b < a))) := by simp [binD]
theorem bin_geq (bt : Bool) (k : IntKind) (a b : Int) : binD bt .geq (.int k a) (.int k b) = some (.bool (decide (b ≤ a))) := by simp [binD]
theorem bin_eql (bt : Bool) (k : IntKind) (a b : Int) : binD bt .eql (.int k a) (.int k b) = some (.bool (decide (a = b))) := by simp [binD, ibeq]
theorem bin_neq (bt : Bool) (k : IntKind) (a b : Int) : binD bt .neq (.int k a) (.int k b) = some (.bool (!decide (a = b))) := by simp [binD, ibne]
theorem bin_add (bt : Bool) (k : IntKind) (a b : Int) : binD bt .add (.int k a) (.int k b) = some (.int k (k.wrap (a + b))) := by simp [binD]
theorem bin_sub (bt : Bool) (k : IntKind) (a b : Int) : binD bt .sub (.int k a) (.int k b) = some (.int k (k.wrap (a - b))) := by simp [binD]
theorem bin_mul (bt : Bool) (k : IntKind) (a b : Int) : binD bt .mul (.int k a) (.int k b) = some (.int k (k.wrap (a * b))) := by simp [binD]
theorem bin_seq (bt : Bool) (a b : ByteArray) : binD bt .eql (.str a) (.str b) = some (.bool (decide (a = b))) := by simp only [binD, toList_beq]
theorem bin_sne (bt : Bool) (a b : ByteArray) : binD bt .neq (.str a) (.str b) = some (.bool (!decide (a = b))) := by simp only [binD, toList_beq]
theorem bin_beq (a b : Bool) : binD true .eql (.bool a) (.bool b) = some (.bool (decide (a = b))) := by simp [binD, bbeq]
theorem bin_bne (a b : Bool) : binD true .neq (.bool a) (.bool b) = some (.bool (!decide (a = b))) := by simp [binD, bbeq]
theorem un_not (b : Bool) : unD .not (.bool b) = some (.bool !b) := rfl
theorem inc64 (j : Nat) (hj : j < 4611686018427387904) : IntKind.i64.wrap ((j : Int) + 1) = ((j + 1 : Nat) : Int) := by
  rw [wrapN (by omega) (by omega)]; omega
section
variable (e : Env) (h : Hp) (k : Nat)
theorem evP_mv (x : X) : evP e h k (.mv x) = some (x.ev e, h) := rfl
theorem evP_pick (c a b : X) : evP e h k (.pick c a b) = (asB (c.ev e)).bind fun t => some (if t = true then a.ev e else b.ev e, h) := rfl
theorem evP_alloc (z : List D) : evP e h k (.alloc z) = some (.ptr k 0 0, hput h k (.var z true)) := rfl
theorem evP_box (n : Nat) (x : X) : evP e h k (.box n x) = (x.ev e).cells.bind fun cs => if cs.length = n then some (.ptr k 0 0, hput h k (.var cs true)) else none := rfl
theorem evP_build (z : List D) (ps : List (Nat × Nat × X)) : evP e h k (.build z ps) = (fillD z (ps.map fun p => (p.1, p.2.1, p.2.2.ev e))).bind fun cs => some (.agg cs, h) := rfl
theorem evP_bsl (t sz : Nat) (z : List D) (n : Nat) (ps : List (Nat × X)) : evP e h k (.bsl t sz z n ps) = (frzL (fun h d => frz 9 h d) h (ps.map fun p => p.2.ev e)).bind fun q => (fillR sz (List.replicate n z) ((ps.map (·.1)).zip q.1)).bind fun xs => some (.osl k, hput q.2 k (.row t sz xs true)) := rfl
theorem evP_load (n : Nat) (ag : Bool) (x : X) : evP e h k (.load n ag x) = (cellsAt h n (x.ev e)).bind fun cs => (mkD ag cs).bind fun d => some (d, h) := rfl
theorem evP_store (n : Nat) (x y : X) : evP e h k (.store n x y) = (y.ev e).cells.bind fun cs => (putAt h n cs (x.ev e)).bind fun h' => some (.und, h') := rfl
theorem evP_bin (bt : Bool) (op : BinOp) (x y : X) : evP e h k (.bin bt op x y) = (binD bt op (x.ev e) (y.ev e)).bind fun d => some (d, h) := rfl
theorem evP_un (op : UnOp) (x : X) : evP e h k (.un op x) = (unD op (x.ev e)).bind fun d => some (d, h) := rfl
theorem evP_mkfn (f : Nat) (xs : List X) : evP e h k (.mkfn f xs) = some (.fn f (xs.map (X.ev e)), h) := rfl
theorem evP_mks (t sz by_ : Nat) (z : List D) (x y : X) : evP e h k (.mks t sz by_ z x y) = (asN (x.ev e)).bind fun n => (asN (y.ev e)).bind fun m => if n = m ∧ n ≤ Lim then some (.osl k, hput h k (.row t sz (List.replicate n z) true)) else none := rfl
theorem evP_mkmap : evP e h k .mkmap = some (.mpr k, hput h k (.mp [])) := rfl
end
theorem cells_int (k : IntKind) (n : Int) : D.cells (.int k n) = some [.int k n] := rfl
theorem cells_bool (n : Bool) : D.cells (.bool n) = some [.bool n] := rfl
theorem cells_str (n : ByteArray) : D.cells (.str n) = some [.str n] := rfl
theorem cells_isl (n : List (List D)) : D.cells (.isl n) = some [.isl n] := rfl
theorem cells_nls : D.cells .nls = some [.nls] := rfl
theorem cells_nlf : D.cells .nlf = some [.nlf] := rfl
theorem cells_fn (f : Nat) (n : List D) : D.cells (.fn f n) = some [.fn f n] := rfl
theorem cells_osl (l : Nat) : D.cells (.osl l) = some [.osl l] := rfl
theorem cells_mpr (l : Nat) : D.cells (.mpr l) = some [.mpr l] := rfl
theorem cells_ptr (l i o : Nat) : D.cells (.ptr l i o) = some [.ptr l i o] := rfl
theorem cells_ipt (n : List D) (o : Nat) : D.cells (.ipt n o) = some [.ipt n o] := rfl
theorem frzL_nil (g : Hp → D → Option (D × Hp)) (h : Hp) : frzL g h [] = some ([], h) := rfl
theorem frzL_cons (g : Hp → D → Option (D × Hp)) (h : Hp) (d : D) (r : List D) : frzL g h (d :: r) = (g h d).bind fun p => (frzL g p.2 r).bind fun q => some (p.1 :: q.1, q.2) := rfl
def frzOb (h : Hp) (l : Nat) : Ob → Option (D × Hp)
  | .row e sz xs _ => some (.isl xs, hput h l (.row e sz xs false))
  | _ => none
theorem frz_osl (n : Nat) (h : Hp) (l : Nat) : frz (n + 1) h (.osl l) = frzOb h l (h l) := by
  simp only [frz]
  cases h l <;> rfl
theorem frz_int (n : Nat) (h : Hp) (k : IntKind) (m : Int) : frz (n + 1) h (.int k m) = some (.int k m, h) := rfl
theorem frz_bool (n : Nat) (h : Hp) (m : Bool) : frz (n + 1) h (.bool m) = some (.bool m, h) := rfl
theorem frz_str (n : Nat) (h : Hp) (m : ByteArray) : frz (n + 1) h (.str m) = some (.str m, h) := rfl
theorem frz_isl (n : Nat) (h : Hp) (m : List (List D)) : frz (n + 1) h (.isl m) = some (.isl m, h) := rfl
theorem frz_ipt (n : Nat) (h : Hp) (m : List D) (o : Nat) : frz (n + 1) h (.ipt m o) = some (.ipt m o, h) := rfl
theorem frz_nls (n : Nat) (h : Hp) : frz (n + 1) h .nls = some (.nls, h) := rfl
theorem frz_nlf (n : Nat) (h : Hp) : frz (n + 1) h .nlf = some (.nlf, h) := rfl
theorem frz_und (n : Nat) (h : Hp) : frz (n + 1) h .und = some (.und, h) := rfl
theorem frz_fn (n : Nat) (h : Hp) (f : Nat) (c : List D) : frz (n + 1) h (.fn f c) = (frzL (frz n) h c).bind fun p => some (.fn f p.1, p.2) := rfl
theorem frz_agg (n : Nat) (h : Hp) (c : List D) : frz (n + 1) h (.agg c) = (frzL (frz n) h c).bind fun p => some (.agg p.1, p.2) := rfl
def frzPt (n : Nat) (h : Hp) (l i o : Nat) : Ob → Option (D × Hp)
  | .var cs _ => if i = 0 then (frzL (frz n) h cs).bind fun p => match p.2 l with
      | .var _ _ => some (.ipt p.1 o, hput p.2 l (.var p.1 false))
      | _ => none
    else none
  | .row e sz xs _ => match xs[i]? with
    | some x => some (.ipt x o, hput h l (.row e sz xs false))
    | none => none
  | _ => none
theorem frz_ptr (n : Nat) (h : Hp) (l i o : Nat) : frz (n + 1) h (.ptr l i o) = frzPt n h l i o (h l) := by
  simp only [frz]
  cases h l <;> rfl
theorem nine : (9 : Nat) = 8 + 1 := rfl
def retOb (h : Hp) (l : Nat) (r : List D) : Ob → Option (List D)
  | .row e sz xs true => (retL (hput h l .no) r).bind fun q => some (.own e sz xs :: q)
  | .row e sz xs false => (retL (hput h l (.row e sz xs false)) r).bind fun q => some (.isl xs :: q)
  | _ => none
theorem retL_nil (h : Hp) : retL h [] = some [] := rfl
theorem retL_osl (h : Hp) (l : Nat) (r : List D) : retL h (.osl l :: r) = retOb h l r (h l) := by
  simp only [retL]
  cases hl : h l with
  | row e sz xs b => cases b <;> simp [retOb, nine, frz_osl, hl, frzOb]
  | _ => simp [retOb, nine, frz_osl, hl, frzOb]
theorem retL_fn (h : Hp) (f : Nat) (c : List D) (r : List D) : retL h (.fn f c :: r) = (frz (8 + 1) h (.fn f c)).bind fun p => (retL p.2 r).bind fun q => some (p.1 :: q) := rfl
theorem eight : (8 : Nat) = 7 + 1 := rfl
theorem retL_int (h : Hp) (k : IntKind) (n : Int) (r : List D) : retL h (.int k n :: r) = (retL h r).bind fun q => some (.int k n :: q) := rfl
theorem retL_bool (h : Hp) (n : Bool) (r : List D) : retL h (.bool n :: r) = (retL h r).bind fun q => some (.bool n :: q) := rfl
theorem retL_str (h : Hp) (n : ByteArray) (r : List D) : retL h (.str n :: r) = (retL h r).bind fun q => some (.str n :: q) := rfl
theorem retL_isl (h : Hp) (n : List (List D)) (r : List D) : retL h (.isl n :: r) = (retL h r).bind fun q => some (.isl n :: q) := rfl
theorem retL_nls (h : Hp) (r : List D) : retL h (.nls :: r) = (retL h r).bind fun q => some (.nls :: q) := rfl
theorem retL_agg (h : Hp) (c : List D) (r : List D) : retL h (.agg c :: r) = (frz 9 h (.agg c)).bind fun p => (retL p.2 r).bind fun q => some (p.1 :: q) := rfl
theorem retL_ptr (h : Hp) (l i o : Nat) (r : List D) : retL h (.ptr l i o :: r) = (frz 9 h (.ptr l i o)).bind fun p => (retL p.2 r).bind fun q => some (p.1 :: q) := rfl
theorem res_nil (s : St) : resOf s [] = some [] := rfl
theorem res_t (s : St) (t : Nat) (r : List (Nat × Option (Nat × Bool))) : resOf s ((t, none) :: r) = (resOf s r).bind fun q => some (s.e t :: q) := rfl
theorem res_c (s : St) (t n : Nat) (ag : Bool) (r : List (Nat × Option (Nat × Bool))) : resOf s ((t, some (n, ag)) :: r) = (cellsAt s.h n (s.e t)).bind fun cs => (mkD ag cs).bind fun d => (resOf s r).bind fun q => some (d :: q) := rfl
theorem ev_t (e : Env) (t : Nat) : X.ev e (.t t) = e t := rfl
theorem ev_c (e : Env) (d : D) : X.ev e (.c d) = d := rfl
theorem hput_at (h : Hp) (k : Nat) (o : Ob) (j : Nat) : hput h k o j = if j = k then o else h j := rfl
theorem env_nil (j : Nat) : envOf [] j = .und := rfl
theorem env_0 (d : D) (r : List D) : envOf (d :: r) 0 = d := rfl
theorem env_s (d : D) (r : List D) (j : Nat) : envOf (d :: r) (j + 1) = envOf r j := rfl
theorem asI_i (k : IntKind) (n : Int) : asI (.int k n) = some n := rfl
theorem asB_b (b : Bool) : asB (.bool b) = some b := rfl
theorem asN_n (n : Nat) : asN (.int .i64 (n : Int)) = some n := by simp [asN]
theorem leaf_int (k : IntKind) (n : Int) : D.leaf (.int k n) = true := rfl
theorem leaf_bool (b : Bool) : D.leaf (.bool b) = true := rfl
theorem leaf_str (b : ByteArray) : D.leaf (.str b) = true := rfl
theorem leaf_isl (b : List (List D)) : D.leaf (.isl b) = true := rfl
theorem leaf_nls  : D.leaf (.nls) = true := rfl
theorem leaf_nlf  : D.leaf (.nlf) = true := rfl
theorem leaf_fn (f : Nat) (b : List D) : D.leaf (.fn f b) = true := rfl
theorem leaf_osl (l : Nat) : D.leaf (.osl l) = true := rfl
theorem leaf_mpr (l : Nat) : D.leaf (.mpr l) = true := rfl
theorem leaf_ptr (l i o : Nat) : D.leaf (.ptr l i o) = true := rfl
theorem leaf_ipt (b : List D) (o : Nat) : D.leaf (.ipt b o) = true := rfl
theorem im_int (k : IntKind) (n : Int) : D.im (.int k n) = true := rfl
theorem nm_int (k : IntKind) (n : Int) : D.nm (.int k n) = [] := rfl
theorem im_bool (b : Bool) : D.im (.bool b) = true := rfl
theorem nm_bool (b : Bool) : D.nm (.bool b) = [] := rfl
theorem im_str (b : ByteArray) : D.im (.str b) = true := rfl
theorem nm_str (b : ByteArray) : D.nm (.str b) = [] := rfl
theorem im_isl (b : List (List D)) : D.im (.isl b) = true := rfl
theorem nm_isl (b : List (List D)) : D.nm (.isl b) = [] := rfl
theorem im_nls  : D.im (.nls) = true := rfl
theorem nm_nls  : D.nm (.nls) = [] := rfl
theorem im_nlf  : D.im (.nlf) = true := rfl
theorem nm_nlf  : D.nm (.nlf) = [] := rfl
theorem im_ipt (b : List D) (o : Nat) : D.im (.ipt b o) = true := rfl
theorem nm_ipt (b : List D) (o : Nat) : D.nm (.ipt b o) = [] := rfl
theorem im_osl (l : Nat) : D.im (.osl l) = false := rfl
theorem nm_osl (l : Nat) : D.nm (.osl l) = [l] := rfl
theorem im_ptr (l i o : Nat) : D.im (.ptr l i o) = false := rfl
theorem mm_max (k : IntKind) (a b : Int) : mmD true (.int k a) (.int k b) = some (.int k (max a b)) := by
  simp only [mmD, if_true]
  congr 2
  omega
theorem mm_min (k : IntKind) (a b : Int) : mmD false (.int k a) (.int k b) = some (.int k (min a b)) := by
  simp only [mmD, if_true, Bool.false_eq_true, if_false]
  congr 2
  omega
theorem any1 (a : Nat) (f : Nat → Bool) : [a].any f = f a := by simp
theorem cont1 (a b : Nat) : [b].contains a = decide (a = b) := by
  by_cases h : a = b <;> simp [h]
theorem im_agg (cs : List D) : D.im (.agg cs) = false := rfl
def aggB : D → Bool
  | .agg cs => cs.all D.im
  | .fn _ cs => cs.all D.im
  | _ => false
def fnB : D → Bool
  | .fn _ cs => cs.all D.im
  | _ => false
theorem imA_eq (d : D) : D.imA d = (d.im || aggB d) := by
  cases d with
  | fn f cs => cases cs <;> rfl
  | _ => simp [D.imA, aggB, D.im]
theorem imF_eq (d : D) : D.imF d = (d.im || fnB d) := by
  cases d with
  | fn f cs => cases cs <;> rfl
  | _ => simp [D.imF, fnB, D.im]
theorem aggB_agg (cs : List D) : aggB (.agg cs) = cs.all D.im := rfl
theorem aggB_fn (f : Nat) (cs : List D) : aggB (.fn f cs) = cs.all D.im := rfl
theorem fnB_fn (f : Nat) (cs : List D) : fnB (.fn f cs) = cs.all D.im := rfl
theorem im_fn (f : Nat) (cs : List D) : D.im (.fn f cs) = cs.isEmpty := rfl
theorem nm_ptr (l i o : Nat) : D.nm (.ptr l i o) = [l] := rfl
theorem nm_mpr (l : Nat) : D.nm (.mpr l) = [l] := rfl
theorem nm_agg (b : List D) : D.nm (.agg b) = [] := rfl
theorem nm_fn (f : Nat) (b : List D) : D.nm (.fn f b) = [] := rfl
theorem isOsl_osl (l : Nat) : isOslIm (.osl l) = true := rfl
theorem cellsAt_ipt (h : Hp) (n : Nat) (cs : List D) (o : Nat) : cellsAt h n (.ipt cs o) = sub cs o n := rfl
theorem elems_isl (h : Hp) (xs : List (List D)) : elems h (.isl xs) = some xs := rfl
theorem elems_nls (h : Hp) : elems h .nls = some [] := rfl
theorem iaD_isl (h : Hp) (sz j : Nat) (xs : List (List D)) : iaD h sz j (.isl xs) = match xs[j]? with
    | some y => if y.length = sz then some (.ipt y 0, h) else none
    | none => none := rfl
theorem iaD_osl (h : Hp) (sz j l : Nat) : iaD h sz j (.osl l) = iaOb l sz j h (h l) := rfl
theorem tk_nil (h : Hp) (k : Nat) : takeIn h k [] = ([], h) := rfl
theorem tk_int (h : Hp) (k : Nat) (i : IntKind) (n : Int) (r : List D) : takeIn h k ((.int i n) :: r) = ((.int i n) :: (takeIn h (k + 1) r).1, (takeIn h (k + 1) r).2) := rfl
theorem tk_bool (h : Hp) (k : Nat) (b : Bool) (r : List D) : takeIn h k ((.bool b) :: r) = ((.bool b) :: (takeIn h (k + 1) r).1, (takeIn h (k + 1) r).2) := rfl
theorem tk_str (h : Hp) (k : Nat) (b : ByteArray) (r : List D) : takeIn h k ((.str b) :: r) = ((.str b) :: (takeIn h (k + 1) r).1, (takeIn h (k + 1) r).2) := rfl
theorem tk_isl (h : Hp) (k : Nat) (b : List (List D)) (r : List D) : takeIn h k ((.isl b) :: r) = ((.isl b) :: (takeIn h (k + 1) r).1, (takeIn h (k + 1) r).2) := rfl
theorem tk_nls (h : Hp) (k : Nat)  (r : List D) : takeIn h k ((.nls) :: r) = ((.nls) :: (takeIn h (k + 1) r).1, (takeIn h (k + 1) r).2) := rfl
theorem tk_nlf (h : Hp) (k : Nat)  (r : List D) : takeIn h k ((.nlf) :: r) = ((.nlf) :: (takeIn h (k + 1) r).1, (takeIn h (k + 1) r).2) := rfl
theorem tk_fn (h : Hp) (k : Nat) (f : Nat) (b : List D) (r : List D) : takeIn h k ((.fn f b) :: r) = ((.fn f b) :: (takeIn h (k + 1) r).1, (takeIn h (k + 1) r).2) := rfl
theorem tk_agg (h : Hp) (k : Nat) (b : List D) (r : List D) : takeIn h k ((.agg b) :: r) = ((.agg b) :: (takeIn h (k + 1) r).1, (takeIn h (k + 1) r).2) := rfl
theorem tk_ipt (h : Hp) (k : Nat) (b : List D) (o : Nat) (r : List D) : takeIn h k ((.ipt b o) :: r) = ((.ipt b o) :: (takeIn h (k + 1) r).1, (takeIn h (k + 1) r).2) := rfl
theorem tk_own (h : Hp) (k e sz : Nat) (xs : List (List D)) (r : List D) : takeIn h k ((.own e sz xs) :: r) = ((.osl k) :: (takeIn (hput h k (.row e sz xs true)) (k + 1) r).1, (takeIn (hput h k (.row e sz xs true)) (k + 1) r).2) := rfl
theorem wr_add1 : IntKind.i64.wrap (0 + 1) = 1 := by decide
theorem wr_m1 : IntKind.i64.wrap (-1 + 1) = 0 := by decide
theorem Lim_eq : Lim = 68719476736 := rfl
theorem LimA_eq (b n : Nat) : LimA b n = (n ≤ 68719476736 ∨ b ≤ 64 ∧ n ≤ 2199023255552) := rfl
theorem eputO_s (e : Env) (t : Nat) (d : D) : eputO e (some t) d = eput e t d := rfl
theorem one_1 (d : D) : one [d] = d := rfl
theorem one_2 (a b : D) (r : List D) : one (a :: b :: r) = .tup (a :: b :: r) := rfl
theorem not_dec (p : Prop) [Decidable p] : (!decide p) = decide (¬ p) := by by_cases h : p <;> simp [h]
theorem if_t {α : Type} (a b : α) : (if true = true then a else b) = a := if_pos rfl
theorem if_f {α : Type} (a b : α) : (if false = true then a else b) = b := if_neg (by simp)
end Go.Proofs.Ytpdamhhaepcffaa.AE
/-
  Rules of a walk, each with the rewriting that proves its side conditions. Printed by a small program of ours.
-/
set_option linter.unusedVariables false
namespace Go.Proofs.Ytpdamhhaepcffaa.AE
open Go Go.RowKit
attribute [go_sem] one_1 one_2 ev_t ev_c env_nil env_0 env_s hput_at asI_i asB_b asN_n if_t if_f evP_mv evP_pick evP_alloc evP_box evP_build evP_bsl evP_load evP_store evP_bin evP_un evP_mkfn evP_mks evP_mkmap evP_iaS evP_ixS evP_fad evP_iaA evP_fld evP_ext evP_lenS evP_lenL evP_eqs evP_app evP_slS evP_mget evP_mput evP_nilc evP_bsf evP_bdf evP_cvi evP_mm mm_max mm_min cells_agg cells_int cells_bool cells_str cells_isl cells_nls cells_nlf cells_fn cells_osl cells_mpr cells_ptr cells_ipt frzL_nil frzL_cons nine frz_osl frz_int frz_bool frz_str frz_isl frz_ipt frz_nls frz_nlf frz_und frz_fn frz_agg frz_ptr frzOb frzPt retOb retL_nil retL_osl retL_fn retL_int retL_bool retL_str retL_isl retL_nls retL_agg retL_ptr res_nil res_t res_c mkD_t mkD_f fillD_cons fillD fillR bin_lss bin_leq bin_gtr bin_geq bin_eql bin_neq bin_add bin_sub bin_mul bin_seq bin_sne bin_beq bin_bne un_not cellsAt_ptr cellsAt_ipt cellsOb putAt_ptr putOb elems_osl elems_isl elems_nls rowOb iaD_isl iaD_osl iaOb fadD iaAD fldD extD lenD eqsD eqL eqC appD appOb LimA_eq true_or or_true slSD bnd mgetD mgetOb mputD mputOb nilcD sub spl leaf_int leaf_bool leaf_str leaf_isl leaf_nls leaf_nlf leaf_fn leaf_osl leaf_mpr leaf_ptr leaf_ipt im_int im_bool im_str im_isl im_nls im_nlf im_ipt im_osl im_ptr im_agg im_fn imA_eq imF_eq aggB_agg aggB_fn fnB_fn Option.bind_some Option.map_some Option.getD_some Option.getD_none wr_add1 wr_m1 Lim_eq eq_self eputO_s List.all_cons List.all_nil Bool.and_true Bool.true_and Bool.and_self Bool.true_or Bool.false_or Bool.or_true Bool.or_false Bool.not_true Bool.not_false Bool.false_eq_true List.length_cons List.length_nil List.map_cons List.map_nil List.drop_succ_cons List.drop_zero List.drop_nil List.take_succ_cons List.take_zero List.take_nil List.cons_append List.nil_append List.append_nil List.getElem?_cons_succ List.getElem?_cons_zero List.getElem?_map List.length_map List.isEmpty_nil List.zip_cons_cons List.zip_nil_left List.replicate_succ List.replicate_zero List.set_cons_zero List.set_cons_succ Int.toNat_natCast Int.natCast_nonneg Nat.add_assoc Nat.zero_add Nat.add_zero true_and and_true and_self if_true if_false decide_true decide_false Nat.le_refl
attribute [go_sem ↓] eput_at
def FinQ (F : XF) (res : List D) : Ex → St → Prop
  | .nrm, s => ((resOf s F.res).bind fun ds => retL s.h ds) = some res
  | .ret, s => ((resOf s F.res).bind fun ds => retL s.h ds) = some res
  | .exit _, _ => False
def FinE (F : XF) (res : List D) (K : St → Prop) : Ex → St → Prop
  | .nrm, s => resOf s F.res = some res ∧ K s
  | .ret, s => resOf s F.res = some res ∧ K s
  | .exit _, _ => False
section
variable {e : Env} {h h' h1 : Hp} {k i n m : Nat} {d d1 d2 : D} {b : List Nat} {r ops : List XO} {K : St → Prop} {KD : List Tch → St → Prop} {ts : List Tch} {dst : Option Nat} {t g : Nat} {op : XOp} {x : X} {xs : List X} {ca cb : XC} {Q : Ex → St → Prop} {f : Nat} {args rs : List D} {c gb : Bool} {prs : List (Nat × Nat)} {tc : Tch}
theorem ev_ {p : Prop} (h : p := by (first | with_reducible rfl | (simp only [go_sem, ↓reduceIte, Nat.reduceEqDiff, Nat.reduceAdd, Nat.reduceMul, Nat.reduceSub, Nat.reduceLT, Nat.reduceLeDiff, Int.reduceEq, Int.reduceLT, Int.reduceLE, Int.reduceNeg, Int.reduceAdd, Int.reduceSub, reduceCtorEq, *] <;> with_reducible rfl))) : p := h
theorem fv_ {p : Prop} (h : p := by (first | (simp only [go_sem, *] <;> with_reducible rfl) | assumption)) : p := h
theorem tk_ {p : Prop} (h : p := by (simp only [tk_nil, tk_int, tk_bool, tk_str, tk_isl, tk_nls, tk_nlf, tk_agg, tk_own, tk_ipt, tk_fn, Nat.zero_add, Nat.reduceAdd, go_sem] <;> with_reducible rfl)) : p := h
theorem s_p (hr : RO xp md k (i + 8) r (eput e t d) h' n K)
    (he : evP e h (k + i) op = some (d, h'))
    (hc : isCall op = false) :
    RO xp md k i (⟨some t, none, op, b⟩ :: r) e h n K := by
  rw [ro_p hc, he, ys_some]; exact hr
theorem s_n (hr : RO xp md k (i + 8) r e h' n K)
    (he : evP e h (k + i) op = some (d, h'))
    (hc : isCall op = false) :
    RO xp md k i (⟨none, none, op, b⟩ :: r) e h n K := by
  rw [ro_p hc, he, ys_some]; exact hr
theorem s_z (hr : K ⟨e, h, n⟩) :
    RO xp md k i [] e h n K := by
  exact ro_nil.2 hr
theorem s_zn {K' : St → Prop}
    (hr : K' ⟨e, h, n⟩) :
    RO xp md k i [] e h n (fun s => Nx Q K' .nrm s) := by
  exact ro_nil.2 hr
theorem s_zb {id : Nat}
    (hr : Q .nrm ⟨e, h, n⟩) :
    RO xp md k i [] e h n (fun s => Bk id Q .nrm s) := by
  exact ro_nil.2 hr
theorem w_sn {K' : St → Prop}
    (hr : K' ⟨e, h, n⟩) :
    Rn xp md .skip ⟨e, h, n⟩ (Nx Q K') := by
  exact rn_skip hr
theorem w_sb {id : Nat}
    (hr : Q .nrm ⟨e, h, n⟩) :
    Rn xp md .skip ⟨e, h, n⟩ (Bk id Q) := by
  exact rn_skip hr
theorem d_zn {K' : St → Prop}
    (hp : prsOk ts.reverse prs = true)
    (hr : K' ⟨e, h, n⟩) :
    RD xp md k i [] e h n ts (fun ts s => prsOk ts prs = true ∧ Nx Q K' .nrm s) := by
  exact rd_nil.2 ⟨hp, hr⟩
theorem d_zb {id : Nat}
    (hp : prsOk ts.reverse prs = true)
    (hr : Q .nrm ⟨e, h, n⟩) :
    RD xp md k i [] e h n ts (fun ts s => prsOk ts prs = true ∧ Bk id Q .nrm s) := by
  exact rd_nil.2 ⟨hp, hr⟩
theorem s_gt (hr : RO xp md k i (⟨dst, none, op, b⟩ :: r) e h n K)
    (hg : e g = .bool gb) :
    RO xp md k i (⟨dst, some (g, gb), op, b⟩ :: r) e h n K := by
  rw [ro_g hg, if_pos rfl]; exact hr
theorem s_gf (hr : RO xp md k (i + 8) r (eput e t .und) h n K)
    (hg : e g = .bool (!gb)) :
    RO xp md k i (⟨some t, some (g, gb), op, b⟩ :: r) e h n K := by
  rw [ro_g hg, if_neg (by cases gb <;> simp)]; exact hr
theorem a0_ {p : Prop} (h : p := by (simp only [Bool.not_true, Bool.not_false];  (first | with_reducible rfl | (simp only [go_sem, ↓reduceIte, Nat.reduceEqDiff, Nat.reduceAdd, Nat.reduceMul, Nat.reduceSub, Nat.reduceLT, Nat.reduceLeDiff, Int.reduceEq, Int.reduceLT, Int.reduceLE, Int.reduceNeg, Int.reduceAdd, Int.reduceSub, reduceCtorEq, *] <;> with_reducible rfl)))) : p := h
theorem s_g1 (h1 : c = true → RO xp md k i (⟨some t, none, op, b⟩ :: r) e h n K)
    (h2 : c = false → RO xp md k (i + 8) r (eput e t .und) h n K)
    (hg : e g = .bool c) :
    RO xp md k i (⟨some t, some (g, true), op, b⟩ :: r) e h n K := by
  rw [ro_g hg]; cases c
  · exact h2 rfl
  · exact h1 rfl
theorem s_g0 (h1 : c = false → RO xp md k i (⟨some t, none, op, b⟩ :: r) e h n K)
    (h2 : c = true → RO xp md k (i + 8) r (eput e t .und) h n K)
    (hg : e g = .bool c) :
    RO xp md k i (⟨some t, some (g, false), op, b⟩ :: r) e h n K := by
  rw [ro_g hg]; cases c
  · exact h1 rfl
  · exact h2 rfl
theorem s_gu (hr : RO xp md k (i + 8) r (eput e t .und) h n K)
    (hg : e g = .und) :
    RO xp md k i (⟨some t, some (g, gb), op, b⟩ :: r) e h n K := by
  rw [ro_gu hg]; exact hr
theorem s_cs (hr : RO xp md k (i + 8) r (eput e t (one rs)) h n K)
    (hm : md f = false)
    (hq : frzL (fun h d => frz 9 h d) h (xs.map (X.ev e)) = some (args, h1))
    (hf : callP (Lv xp md) f args = some rs)
    (hs : rs.all D.scalar = true) :
    RO xp md k i (⟨some t, none, .call f xs, b⟩ :: r) e h n K := by
  rw [ro_call hm, hq, ys_some, hf, ys_some, if_pos hs]; exact hr
theorem s_cv {args' : List D}
    (hr : RO xp md k (i + 8) r (eput e t (one args')) h' n K)
    (hm : md f = false)
    (hq : frzL (fun h d => frz 9 h d) h (xs.map (X.ev e)) = some (args, h1))
    (hf : callP (Lv xp md) f args = some rs)
    (hv : rs.all D.scalar = false)
    (hl : rs.length ≤ 8)
    (ht : takeIn h1 (k + i) rs = (args', h')) :
    RO xp md k i (⟨some t, none, .call f xs, b⟩ :: r) e h n K := by
  rw [ro_call hm, hq, ys_some, hf, ys_some, if_neg (by rw [hv]; simp), if_pos hl, ht]; exact hr
theorem a1_ {p : Prop} (h : p := by (first | rfl | (simp only [go_sem, *] <;> rfl))) : p := h
theorem a2_ {p : Prop} (h : p := by (simp only [List.length_cons, List.length_nil]; omega)) : p := h
theorem s_vs {caps : List D}
    (hr : RO xp md k (i + 8) r (eput e t (one rs)) h n K)
    (hx : x.ev e = .fn f caps)
    (hm : md f = false)
    (hq : frzL (fun h d => frz 9 h d) h (xs.map (X.ev e) ++ caps) = some (args, h1))
    (hf : callP (Lv xp md) f args = some rs)
    (hs : rs.all D.scalar = true) :
    RO xp md k i (⟨some t, none, .callv x xs, b⟩ :: r) e h n K := by
  rw [ro_cons]; simp only [wantedD, ys_some, if_true]; rw [ev_callv hx hm, hq, ys_some, hf, ys_some, if_pos hs]; exact hr
theorem s_vE {caps : List D} {ds : List D} {n' : Nat}
    (hf : Lv xp md f args h n = some (ds, h', n'))
    (hr : RO xp md k (i + 8) r (eputO e dst (one ds)) h' n' K)
    (hx : x.ev e = .fn f caps)
    (hq : xs.map (X.ev e) ++ caps = args)
    (hm : md f = true) :
    RO xp md k i (⟨dst, none, .callv x xs, b⟩ :: r) e h n K := by
  rw [ro_cons]; simp only [wantedD, ys_some, if_true]; rw [ev_callE hx hm, hq, hf, ys_some]; exact hr
theorem d_p (hr : RD xp md k (i + 8) r (eput e t d) h' n (tc :: ts) KD)
    (he : evP e h (k + i) op = some (d, h'))
    (hc : isCall op = false)
    (hk : okD md (Lv xp md) e h op = true)
    (htc : touch e op = tc) :
    RD xp md k i (⟨some t, none, op, b⟩ :: r) e h n ts KD := by
  rw [rd_p hc, he, ys_some, htc]; exact ⟨hk, hr⟩
theorem a3_ {p : Prop} (h : p := by (first | rfl | (simp only [okD, isOsl_osl, any1, cont1, nm_int, nm_bool, nm_str, nm_isl, nm_nls, nm_nlf, nm_ipt, nm_agg, nm_osl, nm_ptr, nm_mpr, nm_fn, List.any_nil, go_sem, ↓reduceIte, Nat.reduceEqDiff, Nat.reduceAdd, Nat.reduceMul, Nat.reduceSub, Nat.reduceLT, Nat.reduceLeDiff, Int.reduceEq, Int.reduceLT, Int.reduceLE, Int.reduceNeg, Int.reduceAdd, Int.reduceSub, reduceCtorEq, *, Bool.or_true, Bool.true_or, Bool.false_or] <;> with_reducible rfl))) : p := h
theorem a4_ {p : Prop} (h : p := by ((simp only [touch, nm_int, nm_bool, nm_str, nm_isl, nm_nls, nm_nlf, nm_ipt, nm_agg, nm_osl, nm_ptr, nm_mpr, nm_fn, List.flatMap_cons, List.flatMap_nil, go_sem, ↓reduceIte, Nat.reduceEqDiff, Nat.reduceAdd, Nat.reduceMul, Nat.reduceSub, Nat.reduceLT, Nat.reduceLeDiff, Int.reduceEq, Int.reduceLT, Int.reduceLE, Int.reduceNeg, Int.reduceAdd, Int.reduceSub, reduceCtorEq, *] <;> with_reducible rfl))) : p := h
theorem d_n (hr : RD xp md k (i + 8) r e h' n (tc :: ts) KD)
    (he : evP e h (k + i) op = some (d, h'))
    (hc : isCall op = false)
    (hk : okD md (Lv xp md) e h op = true)
    (htc : touch e op = tc) :
    RD xp md k i (⟨none, none, op, b⟩ :: r) e h n ts KD := by
  rw [rd_p hc, he, ys_some, htc]; exact ⟨hk, hr⟩
theorem d_z (hr : KD ts.reverse ⟨e, h, n⟩) :
    RD xp md k i [] e h n ts KD := by
  exact rd_nil.2 hr
theorem d_gt (hr : RD xp md k i (⟨dst, none, op, b⟩ :: r) e h n ts KD)
    (hg : e g = .bool gb) :
    RD xp md k i (⟨dst, some (g, gb), op, b⟩ :: r) e h n ts KD := by
  rw [rd_g hg, if_pos rfl]; exact hr
theorem d_gf (hr : RD xp md k (i + 8) r (eput e t .und) h n (([], []) :: ts) KD)
    (hg : e g = .bool (!gb)) :
    RD xp md k i (⟨some t, some (g, gb), op, b⟩ :: r) e h n ts KD := by
  rw [rd_g hg, if_neg (by cases gb <;> simp)]; exact hr
theorem d_g1 (h1 : c = true → RD xp md k i (⟨some t, none, op, b⟩ :: r) e h n ts KD)
    (h2 : c = false → RD xp md k (i + 8) r (eput e t .und) h n (([], []) :: ts) KD)
    (hg : e g = .bool c) :
    RD xp md k i (⟨some t, some (g, true), op, b⟩ :: r) e h n ts KD := by
  rw [rd_g hg]; cases c
  · exact h2 rfl
  · exact h1 rfl
theorem d_g0 (h1 : c = false → RD xp md k i (⟨some t, none, op, b⟩ :: r) e h n ts KD)
    (h2 : c = true → RD xp md k (i + 8) r (eput e t .und) h n (([], []) :: ts) KD)
    (hg : e g = .bool c) :
    RD xp md k i (⟨some t, some (g, false), op, b⟩ :: r) e h n ts KD := by
  rw [rd_g hg]; cases c
  · exact h1 rfl
  · exact h2 rfl
theorem d_gu (hr : RD xp md k (i + 8) r (eput e t .und) h n (([], []) :: ts) KD)
    (hg : e g = .und) :
    RD xp md k i (⟨some t, some (g, gb), op, b⟩ :: r) e h n ts KD := by
  rw [rd_gu hg]; exact hr
def isB : D → Bool
  | .osl _ => true
  | _ => false
theorem isOsl_eq (d : D) : isOslIm d = (isB d || d.imA) := by cases d <;> rfl
theorem isB_osl (l : Nat) : isB (.osl l) = true := rfl
theorem okc {C : Calls1} (hm : md f = false) (hk : (xs.map (X.ev e)).all isOslIm = true) (hq : frzL (fun h d => frz 9 h d) h (xs.map (X.ev e)) = some (args, h1)) (hf : callP C f args = some rs) (hs : rs.all D.scalar = true) : okD md C e h (.call f xs) = true := by
  simp only [okD, hm, hk, hq, Option.bind_some, hf, Option.any_some, hs]
  simp
theorem d_cs (hr : RD xp md k (i + 8) r (eput e t (one rs)) h n (tc :: ts) KD)
    (hm : md f = false)
    (hq : frzL (fun h d => frz 9 h d) h (xs.map (X.ev e)) = some (args, h1))
    (hf : callP (Lv xp md) f args = some rs)
    (hs : rs.all D.scalar = true)
    (hk : (xs.map (X.ev e)).all isOslIm = true)
    (htc : touch e (.call f xs) = tc) :
    RD xp md k i (⟨some t, none, .call f xs, b⟩ :: r) e h n ts KD := by
  rw [rd_call hm, hq, ys_some, hf, ys_some, if_pos hs, htc]; exact ⟨okc hm hk hq hf hs, hr⟩
theorem a5_ {p : Prop} (h : p := by (first | rfl | (simp only [isOsl_eq, isB_osl, go_sem, ↓reduceIte, Nat.reduceEqDiff, Nat.reduceAdd, Nat.reduceMul, Nat.reduceSub, Nat.reduceLT, Nat.reduceLeDiff, Int.reduceEq, Int.reduceLT, Int.reduceLE, Int.reduceNeg, Int.reduceAdd, Int.reduceSub, reduceCtorEq, *, Bool.or_true, Bool.true_or, Bool.false_or] <;> with_reducible rfl))) : p := h
theorem d_cv {args' : List D}
    (hr : RD xp md k (i + 8) r (eput e t (one args')) h' n (tc :: ts) KD)
    (hm : md f = false)
    (hq : frzL (fun h d => frz 9 h d) h (xs.map (X.ev e)) = some (args, h1))
    (hf : callP (Lv xp md) f args = some rs)
    (hv : rs.all D.scalar = false)
    (hl : rs.length ≤ 8)
    (ht : takeIn h1 (k + i) rs = (args', h'))
    (hk : okD md (Lv xp md) e h (.call f xs) = true)
    (htc : touch e (.call f xs) = tc) :
    RD xp md k i (⟨some t, none, .call f xs, b⟩ :: r) e h n ts KD := by
  rw [rd_call hm, hq, ys_some, hf, ys_some, if_neg (by rw [hv]; simp), if_pos hl, ht, htc]; exact ⟨hk, hr⟩
theorem a6_ {p : Prop} (h : p := by ((simp only [okD, md, isOsl_osl, go_sem, ↓reduceIte, Nat.reduceEqDiff, Nat.reduceAdd, Nat.reduceMul, Nat.reduceSub, Nat.reduceLT, Nat.reduceLeDiff, Int.reduceEq, Int.reduceLT, Int.reduceLE, Int.reduceNeg, Int.reduceAdd, Int.reduceSub, reduceCtorEq, *, Bool.or_true, Bool.true_or, Bool.false_or] <;> with_reducible rfl))) : p := h
theorem w_r (hh : RO xp md k 0 ops e h n fun s => Q .nrm s)
    (hm : 8 * ops.length = m)
    (hk : k + m = n) :
    Rn xp md (.reg false prs ops) ⟨e, h, k⟩ Q := by
  subst hk hm; exact rn_r hh
theorem a7_ {p : Prop} (h : p := by ((simp only [LN]) <;> rfl)) : p := h
theorem a8_ {p : Prop} (h : p := by (first | (simp only [Nat.zero_add, Nat.reduceAdd] <;> rfl) | rfl)) : p := h
theorem w_d (hh : RD xp md k 0 ops e h n [] fun ts s => prsOk ts prs = true ∧ Q .nrm s)
    (hm : 8 * ops.length = m)
    (hk : k + m = n) :
    Rn xp md (.reg true prs ops) ⟨e, h, k⟩ Q := by
  subst hk hm; exact rn_d hh
theorem w_t (hh : Rn xp md ca ⟨e, h, k⟩ Q)
    (hc : x.ev e = .bool true) :
    Rn xp md (.cond x ca cb) ⟨e, h, k⟩ Q := by
  exact rn_cond (s := ⟨e, h, k⟩) hc hh
theorem w_f (hh : Rn xp md cb ⟨e, h, k⟩ Q)
    (hc : x.ev e = .bool false) :
    Rn xp md (.cond x ca cb) ⟨e, h, k⟩ Q := by
  exact rn_cond (s := ⟨e, h, k⟩) hc hh
theorem w_i (ht : c = true → Rn xp md ca ⟨e, h, k⟩ Q)
    (hf : c = false → Rn xp md cb ⟨e, h, k⟩ Q)
    (hc : x.ev e = .bool c) :
    Rn xp md (.cond x ca cb) ⟨e, h, k⟩ Q := by
  cases c
  · exact rn_cond (s := ⟨e, h, k⟩) (t := false) hc (hf rfl)
  · exact rn_cond (s := ⟨e, h, k⟩) (t := true) hc (ht rfl)
theorem x_nx {K' : St → Prop}
    (hr : Rn xp md (.exit i) ⟨e, h, k⟩ Q) :
    Rn xp md (.exit i) ⟨e, h, k⟩ (Nx Q K') := by
  obtain ⟨n, ⟨x, s⟩, h1, h2⟩ := hr; cases h1; exact rn_exit h2
theorem x_b0 (hr : Q .nrm ⟨e, h, k⟩) :
    Rn xp md (.exit i) ⟨e, h, k⟩ (Bk i Q) := by
  exact rn_exit (by simp only [Bk, if_true]; exact hr)
theorem x_b1 {id : Nat}
    (hr : Rn xp md (.exit i) ⟨e, h, k⟩ Q)
    (hn : i ≠ id) :
    Rn xp md (.exit i) ⟨e, h, k⟩ (Bk id Q) := by
  obtain ⟨n, ⟨x, s⟩, h1, h2⟩ := hr; cases h1; exact rn_exit (by simp only [Bk, if_neg hn]; exact h2)
theorem r_nx {K' : St → Prop}
    (hr : Rn xp md .ret ⟨e, h, k⟩ Q) :
    Rn xp md .ret ⟨e, h, k⟩ (Nx Q K') := by
  obtain ⟨n, ⟨x, s⟩, h1, h2⟩ := hr; cases h1; exact rn_ret h2
theorem r_bk {id : Nat}
    (hr : Rn xp md .ret ⟨e, h, k⟩ Q) :
    Rn xp md .ret ⟨e, h, k⟩ (Bk id Q) := by
  obtain ⟨n, ⟨x, s⟩, h1, h2⟩ := hr; cases h1; exact rn_ret h2
theorem n_nx {K' : St → Prop}
    (hr : K' ⟨e, h, k⟩) :
    Nx Q K' .nrm ⟨e, h, k⟩ := by
  exact hr
theorem n_bk {id : Nat}
    (hr : Q .nrm ⟨e, h, k⟩) :
    Bk id Q .nrm ⟨e, h, k⟩ := by
  exact hr
theorem f_r {F : XF} {res res' : List D} {l : List (Nat × Option (Nat × Bool))}
    (hres : res' = res)
    (hF : F.res = l)
    (hr : ((resOf (⟨e, h, k⟩ : St) l).bind fun ds => retL h ds) = some res') :
    Rn xp md .ret ⟨e, h, k⟩ (FinQ F res) := by
  exact rn_ret (by simp only [FinQ]; rw [hF]; exact hr.trans (congrArg some hres))
theorem a9_ {p : Prop} (h : p := by ((simp only [RS]) <;> rfl)) : p := h
theorem f_n {F : XF} {res res' : List D} {l : List (Nat × Option (Nat × Bool))}
    (hres : res' = res)
    (hF : F.res = l)
    (hr : ((resOf (⟨e, h, k⟩ : St) l).bind fun ds => retL h ds) = some res') :
    FinQ F res .nrm ⟨e, h, k⟩ := by
  simp only [FinQ]; rw [hF]; exact hr.trans (congrArg some hres)
theorem fn_v {F : XF} {res : List D}
    (hF : xp f = some F)
    (hh : Rn xp md F.body ⟨envOf args, fun _ => .no, 0⟩ (FinQ F res))
    (ha : args.length ≤ F.nt := by (simp only [NT, List.length_cons, List.length_nil]; omega)) :
    callP (Lv xp md) f args = some res := by
  refine Fv_intro hF ha (hh.mono fun x s hx => ?_)
  cases x with
  | nrm => exact ⟨.inl rfl, hx⟩
  | ret => exact ⟨.inr rfl, hx⟩
  | exit i => exact hx.elim
theorem a10_ {p : Prop} (h : p := by ((simp only [NT, List.length_cons, List.length_nil]; omega))) : p := h
theorem q_nx {K' : St → Prop}
    (hr : Q .ret ⟨e, h, k⟩) :
    Nx Q K' .ret ⟨e, h, k⟩ := by
  exact hr
theorem q_bk {id : Nat}
    (hr : Q .ret ⟨e, h, k⟩) :
    Bk id Q .ret ⟨e, h, k⟩ := by
  exact hr
theorem f_q {F : XF} {res res' : List D} {l : List (Nat × Option (Nat × Bool))}
    (hres : res' = res)
    (hF : F.res = l)
    (hr : ((resOf (⟨e, h, k⟩ : St) l).bind fun ds => retL h ds) = some res') :
    FinQ F res .ret ⟨e, h, k⟩ := by
  simp only [FinQ]; rw [hF]; exact hr.trans (congrArg some hres)
theorem g_r {F : XF} {res res' : List D} {l : List (Nat × Option (Nat × Bool))}
    (hres : res' = res ∧ K ⟨e, h, k⟩)
    (hF : F.res = l)
    (hr : resOf (⟨e, h, k⟩ : St) l = some res') :
    Rn xp md .ret ⟨e, h, k⟩ (FinE F res K) := by
  exact rn_ret (by simp only [FinE]; rw [hF]; exact ⟨hr.trans (congrArg some hres.1), hres.2⟩)
theorem g_n {F : XF} {res res' : List D} {l : List (Nat × Option (Nat × Bool))}
    (hres : res' = res ∧ K ⟨e, h, k⟩)
    (hF : F.res = l)
    (hr : resOf (⟨e, h, k⟩ : St) l = some res') :
    FinE F res K .nrm ⟨e, h, k⟩ := by
  simp only [FinE]; rw [hF]; exact ⟨hr.trans (congrArg some hres.1), hres.2⟩
theorem fn_e {F : XF} {res : List D}
    (hF : xp f = some F)
    (hh : Rn xp md F.body ⟨envOf args, h, k⟩ (FinE F res K))
    (ha : args.length ≤ F.nt := by (simp only [NT, List.length_cons, List.length_nil]; omega)) :
    ∃ h' k', Lv xp md f args h k = some (res, h', k') ∧ ∃ e, K ⟨e, h', k'⟩ := by
  obtain ⟨n, ⟨x, s⟩, h1, h2⟩ := hh
  have : (x = .nrm ∨ x = .ret) ∧ resOf s F.res = some res ∧ K s := by
    cases x with
    | nrm => exact ⟨.inl rfl, h2⟩
    | ret => exact ⟨.inr rfl, h2⟩
    | exit i => exact h2.elim
  exact ⟨s.h, s.k, Lv_intro hF ha ⟨n, (x, s), h1, this.1, this.2.1, rfl, rfl⟩, s.e, this.2.2⟩
theorem pr_ {p : Prop} (h : p := by (simp (disch := omega) only [prsOk_cons, prsOk_nil, List.reverse_cons, List.reverse_nil, List.nil_append, List.cons_append, List.getD_cons_succ, List.getD_cons_zero, apartT_rr, apartT_l, apartT_rl, apartT_rw, apartT_wr, apartT_ww, Bool.and_self] <;> fail)) : p := h
theorem nc2 : ((2 : Nat) : Int) = 2 := rfl
theorem nc3 : ((3 : Nat) : Int) = 3 := rfl
theorem tn0 : Int.toNat 0 = 0 := rfl
theorem tn1 : Int.toNat 1 = 1 := rfl
theorem tn2 : Int.toNat 2 = 2 := rfl
attribute [go_sem] nc2 nc3 tn0 tn1 tn2
structure Kd (K : Prop) : Prop where
  out : K
theorem gD {p : Prop} (h : p := by ((repeat' (first | intro _ | ((with_reducible first | apply s_p | apply s_n); rotate_left 1; exact ev_; rfl) | (with_reducible first | apply s_zn | apply s_zb | apply rn_seq | apply rn_blk | apply w_sn | apply w_sb | apply x_b0 | apply x_nx | apply r_nx | apply r_bk | apply n_nx | apply n_bk | apply q_nx | apply q_bk) | ((with_reducible apply s_gt); rotate_left 1; exact ev_) | ((with_reducible apply s_gf); rotate_left 1; exact a0_) | ((with_reducible apply s_gu); rotate_left 1; exact ev_) | ((with_reducible apply s_cs); rotate_left 1; rfl; exact ev_; exact fv_; rfl) | ((with_reducible apply s_cv); rotate_left 1; rfl; exact ev_; exact fv_; exact a1_; exact a2_; exact tk_) | ((with_reducible apply s_vs); rotate_left 1; exact ev_; rfl; exact ev_; exact fv_; rfl) | ((with_reducible first | apply s_g1 | apply s_g0); rotate_left 2; exact ev_) | ((with_reducible first | apply w_r | apply w_d); rotate_left 1; exact a7_; exact a8_) | ((with_reducible apply w_t); rotate_left 1; exact ev_) | ((with_reducible apply w_f); rotate_left 1; exact ev_) | ((with_reducible apply w_i); rotate_left 2; exact ev_) | ((with_reducible apply x_b1); rotate_left 1; (decide)) | ((with_reducible first | apply f_q | apply f_r | apply f_n | apply g_r | apply g_n); rotate_left 1; exact a9_; exact ev_) | ((with_reducible first | apply d_p | apply d_n); rotate_left 1; exact ev_; rfl; exact a3_; exact a4_) | ((with_reducible apply d_cs); rotate_left 1; rfl; exact ev_; exact fv_; rfl; exact a5_; exact a4_) | ((with_reducible apply d_cv); rotate_left 1; rfl; exact ev_; exact fv_; exact a1_; exact a2_; exact tk_; exact a6_; exact a4_) | ((with_reducible apply d_gt); rotate_left 1; exact ev_) | ((with_reducible apply d_gf); rotate_left 1; exact a0_) | ((with_reducible apply d_gu); rotate_left 1; exact ev_) | (with_reducible first | apply d_zn | apply d_zb) | ((with_reducible first | apply d_g1 | apply d_g0); rotate_left 2; exact ev_) | exact pr_ | fail)) <;> fail)) : p := h
theorem gK {p K : Prop} (hk : K) (h : Kd K → p := by (intro k_; ((repeat' (first | intro _ | ((with_reducible first | apply s_p | apply s_n); rotate_left 1; exact ev_; rfl) | (with_reducible first | apply s_zn | apply s_zb | apply rn_seq | apply rn_blk | apply w_sn | apply w_sb | apply x_b0 | apply x_nx | apply r_nx | apply r_bk | apply n_nx | apply n_bk | apply q_nx | apply q_bk) | ((with_reducible apply s_gt); rotate_left 1; exact ev_) | ((with_reducible apply s_gf); rotate_left 1; exact a0_) | ((with_reducible apply s_gu); rotate_left 1; exact ev_) | ((with_reducible apply s_cs); rotate_left 1; rfl; exact ev_; exact fv_; rfl) | ((with_reducible apply s_cv); rotate_left 1; rfl; exact ev_; exact fv_; exact a1_; exact a2_; exact tk_) | ((with_reducible apply s_vs); rotate_left 1; exact ev_; rfl; exact ev_; exact fv_; rfl) | ((with_reducible first | apply s_g1 | apply s_g0); rotate_left 2; exact ev_) | ((with_reducible first | apply w_r | apply w_d); rotate_left 1; exact a7_; exact a8_) | ((with_reducible apply w_t); rotate_left 1; exact ev_) | ((with_reducible apply w_f); rotate_left 1; exact ev_) | ((with_reducible apply w_i); rotate_left 2; exact ev_) | ((with_reducible apply x_b1); rotate_left 1; (decide)) | ((with_reducible first | apply f_q | apply f_r | apply f_n | apply g_r | apply g_n); rotate_left 1; exact a9_; exact ev_) | ((with_reducible first | apply d_p | apply d_n); rotate_left 1; exact ev_; rfl; exact a3_; exact a4_) | ((with_reducible apply d_cs); rotate_left 1; rfl; exact ev_; exact fv_; rfl; exact a5_; exact a4_) | ((with_reducible apply d_cv); rotate_left 1; rfl; exact ev_; exact fv_; exact a1_; exact a2_; exact tk_; exact a6_; exact a4_) | ((with_reducible apply d_gt); rotate_left 1; exact ev_) | ((with_reducible apply d_gf); rotate_left 1; exact a0_) | ((with_reducible apply d_gu); rotate_left 1; exact ev_) | (with_reducible first | apply d_zn | apply d_zb) | ((with_reducible first | apply d_g1 | apply d_g0); rotate_left 2; exact ev_) | exact pr_ | fail)) <;> exact k_.out))) : p := h ⟨hk⟩
theorem eA {p : Prop} (h : p := by (simp only [go_sem, ↓reduceIte, Nat.reduceEqDiff, Nat.reduceAdd, Nat.reduceMul, Nat.reduceSub, Nat.reduceLT, Nat.reduceLeDiff, Int.reduceEq, Int.reduceLT, Int.reduceLE, Int.reduceNeg, Int.reduceAdd, Int.reduceSub, reduceCtorEq] <;> fail)) : p := h
theorem eB {p : Prop} (h : p := by (simp only [go_sem, ↓reduceIte, Nat.reduceEqDiff, Nat.reduceAdd, Nat.reduceMul, Nat.reduceSub, Nat.reduceLT, Nat.reduceLeDiff, Int.reduceEq, Int.reduceLT, Int.reduceLE, Int.reduceNeg, Int.reduceAdd, Int.reduceSub, reduceCtorEq]; rfl)) : p := h
theorem eC {p : Prop} (h : p := by (simp only [go_sem, ↓reduceIte, Nat.reduceEqDiff, Nat.reduceAdd, Nat.reduceMul, Nat.reduceSub, Nat.reduceLT, Nat.reduceLeDiff, Int.reduceEq, Int.reduceLT, Int.reduceLE, Int.reduceNeg, Int.reduceAdd, Int.reduceSub, reduceCtorEq, *] <;> fail)) : p := h
theorem eD {p : Prop} (h : p := by (simp only [go_sem, ↓reduceIte, Nat.reduceEqDiff, Nat.reduceAdd, Nat.reduceMul, Nat.reduceSub, Nat.reduceLT, Nat.reduceLeDiff, Int.reduceEq, Int.reduceLT, Int.reduceLE, Int.reduceNeg, Int.reduceAdd, Int.reduceSub, reduceCtorEq, *]; rfl)) : p := h
theorem eO {p : Prop} (h : p := by (simp only; omega)) : p := h
end
end Go.Proofs.Ytpdamhhaepcffaa.AE
/-
  Facts that walks of every seat use: bounds, lists, rows made by appends or in place. No program in sight.
-/
set_option linter.unusedVariables false
set_option linter.unusedSimpArgs false
namespace Go.Proofs.Ytpdamhhaepcffaa.AE
open Go
theorem nextC {j n : Nat} (h : j ≤ n) : (j < n ∧ decide ((j : Int) < (n : Int)) = true) ∨ (j = n ∧ decide ((j : Int) < (n : Int)) = false) := by
  rcases Nat.lt_or_ge j n with h1 | h1
  · exact .inl ⟨h1, by simp; omega⟩
  · exact .inr ⟨by omega, by simp; omega⟩
theorem at_lt {α : Type} {l : List α} {j : Nat} (h : j < l.length) : ∃ x, l[j]? = some x := ⟨l[j], List.getElem?_eq_getElem h⟩
theorem before_succ {α : Type} {l : List α} {j : Nat} {x : α} {p : α → Prop} (hx : l[j]? = some x) (hp : p x) (hb : ∀ i y, i < j → l[i]? = some y → p y) : ∀ i y, i < j + 1 → l[i]? = some y → p y := by
  intro i y hi hy
  by_cases he : i = j
  · subst he; rw [hx] at hy; obtain rfl := Option.some.inj hy; exact hp
  · exact hb i y (by omega) hy
theorem before_suc2 {α : Type} {l : List α} {j : Nat} {x : α} {p : Nat → α → Prop} (hx : l[j]? = some x) (hp : p j x) (hb : ∀ i y, i < j → l[i]? = some y → p i y) : ∀ i y, i < j + 1 → l[i]? = some y → p i y := by
  intro i y hi hy
  by_cases he : i = j
  · subst he; rw [hx] at hy; obtain rfl := Option.some.inj hy; exact hp
  · exact hb i y (by omega) hy
theorem findq_at {α : Type} {l : List α} {p : α → Bool} {j : Nat} {d : α} (hd : l[j]? = some d) (hn : p d = true) (hb : ∀ i x, i < j → l[i]? = some x → p x = false) : l.find? p = some d := by
  obtain ⟨hj, rfl⟩ := List.getElem?_eq_some_iff.1 hd
  rw [List.find?_eq_some_iff_getElem]
  exact ⟨hn, j, hj, rfl, fun i hi => by rw [hb i _ hi (List.getElem?_eq_getElem (by omega))]; rfl⟩
theorem findq_no {α : Type} {l : List α} {p : α → Bool} (hb : ∀ i x, i < l.length → l[i]? = some x → p x = false) : l.find? p = none := by
  rw [List.find?_eq_none]
  intro x hx
  obtain ⟨i, hi⟩ := List.getElem?_of_mem hx
  rw [hb i x (List.getElem?_eq_some_iff.1 hi).1 hi]
  simp
theorem any_yes {α : Type} {l : List α} {p : α → Bool} {j : Nat} {x : α} (hx : l[j]? = some x) (hp : p x = true) : l.any p = true := List.any_eq_true.2 ⟨x, List.mem_of_getElem? hx, hp⟩
theorem any_no {α : Type} {l : List α} {p : α → Bool} (hb : ∀ i x, i < l.length → l[i]? = some x → p x = false) : l.any p = false := by
  refine List.any_eq_false.2 fun x hx => ?_
  obtain ⟨i, hi⟩ := List.getElem?_of_mem hx
  rw [hb i x (List.getElem?_eq_some_iff.1 hi).1 hi]
  simp
/-- A fact out of the rewriting's sight. -/
def Hid (p : Prop) : Prop := p
/-- A list made by appends: its elements' type e, their size s, its rows xs; its name, if any, from b on, below k. -/
def OutX (h : Hp) (b k e s : Nat) (xs : List (List D)) (ov : D) : Prop := (xs = [] ∧ ov = .nls) ∨ ∃ o, ov = .osl o ∧ b ≤ o ∧ o < k ∧ h o = .row e s xs true ∧ xs ≠ []
theorem OutX.put1 {h : Hp} {b k e s j : Nat} {xs : List (List D)} {ov : D} (hv : OutX h b k e s xs ov) (hj : k ≤ j ∨ j < b) {ob : Ob} : OutX (hput h j ob) b k e s xs ov := by
  rcases hv with hv | ⟨o, c1, c2, c3, c4, c5⟩
  · exact .inl hv
  · exact .inr ⟨o, c1, c2, by omega, by rw [hput_ne _ _ (by omega)]; exact c4, c5⟩
theorem OutX.up {h : Hp} {b k k' e s : Nat} {xs : List (List D)} {ov : D} (hv : OutX h b k e s xs ov) (hk : k ≤ k') : OutX h b k' e s xs ov := by
  rcases hv with hv | ⟨o, c1, c2, c3, c4, c5⟩
  · exact .inl hv
  · exact .inr ⟨o, c1, c2, by omega, c4, c5⟩
def rdX (e s : Nat) (xs : List (List D)) : D := if xs.isEmpty then .nls else .own e s xs
theorem OutX.ret {h : Hp} {b k e s : Nat} {xs : List (List D)} {ov : D} (hv : OutX h b k e s xs ov) : retL h [ov] = some [rdX e s xs] := by
  rcases hv with ⟨rfl, rfl⟩ | ⟨o, rfl, _, _, ho, hne⟩
  · rfl
  · have : xs.isEmpty = false := by cases xs with | nil => exact absurd rfl hne | cons => rfl
    simp only [rdX, this]
    simp only [go_sem, ↓reduceIte, Nat.reduceEqDiff, Nat.reduceAdd, Nat.reduceMul, Nat.reduceSub, Nat.reduceLT, Nat.reduceLeDiff, Int.reduceEq, Int.reduceLT, Int.reduceLE, Int.reduceNeg, Int.reduceAdd, Int.reduceSub, reduceCtorEq, *]
theorem OutX.ret2 {h : Hp} {b k e s : Nat} {xs : List (List D)} {ov : D} {q : Bool} (hv : OutX h b k e s xs ov) : retL h [ov, .bool q] = some [rdX e s xs, .bool q] := by
  rcases hv with ⟨rfl, rfl⟩ | ⟨o, rfl, _, _, ho, hne⟩
  · rfl
  · have : xs.isEmpty = false := by cases xs with | nil => exact absurd rfl hne | cons => rfl
    simp only [rdX, this]
    simp only [go_sem, ↓reduceIte, Nat.reduceEqDiff, Nat.reduceAdd, Nat.reduceMul, Nat.reduceSub, Nat.reduceLT, Nat.reduceLeDiff, Int.reduceEq, Int.reduceLT, Int.reduceLE, Int.reduceNeg, Int.reduceAdd, Int.reduceSub, reduceCtorEq, *]
theorem OutX.elems {h : Hp} {b k e s : Nat} {xs : List (List D)} {ov : D} (hv : OutX h b k e s xs ov) : AE.elems h ov = some xs := by
  rcases hv with ⟨rfl, rfl⟩ | ⟨o, rfl, _, _, ho, _⟩
  · rfl
  · rw [elems_osl, ho]; rfl
theorem rdX_cases (e s : Nat) (xs : List (List D)) : (xs = [] ∧ rdX e s xs = .nls) ∨ (xs ≠ [] ∧ rdX e s xs = .own e s xs) := by
  cases xs with
  | nil => exact .inl ⟨rfl, rfl⟩
  | cons a r => exact .inr ⟨by simp, rfl⟩
theorem rdX_ne {e s : Nat} {xs : List (List D)} (h : xs ≠ []) : rdX e s xs = .own e s xs := by
  cases xs with
  | nil => exact absurd rfl h
  | cons a r => rfl
/-! strings -/
def byt (s : ByteArray) (j : Nat) : Int := ((s.data[j]?.getD 0).toNat : Int)
theorem ixD_at {s : ByteArray} {j : Nat} (hj : j < s.size) : ∀ h, ixD h (j : Int) (.str s) = some (.int .u8 (byt s j), h) := by
  intro h
  have h0 : 0 ≤ (j : Int) ∧ ((j : Int)).toNat < s.size := ⟨by omega, by simpa using hj⟩
  simp only [ixD]
  rw [dif_pos h0]
  congr 2
  simp only [byt, D.int.injEq, true_and]
  have : s.data[j]? = some s.data[j] := Array.getElem?_eq_getElem hj
  rw [this]
  rfl
theorem byt_bd (s : ByteArray) (j : Nat) : 0 ≤ byt s j ∧ byt s j < 256 := by
  unfold byt
  have := (s.data[j]?.getD 0).toNat_lt
  omega
/-! rows of bools -/
def bl (A : List Bool) : List (List D) := A.map fun b => [.bool b]
theorem bl_at (A : List Bool) (j : Nat) : (bl A)[j]? = A[j]?.map fun b => [.bool b] := by simp [bl]
theorem bl_len (A : List Bool) : (bl A).length = A.length := by simp [bl]
theorem bl_all (A : List Bool) : ((bl A).all fun y => decide (y.length = 1)) = true := by simp [bl]
theorem bl_app (A : List Bool) (b : Bool) : bl A ++ [[.bool b]] = bl (A ++ [b]) := by simp [bl]
theorem bl_set (A : List Bool) (j : Nat) (b : Bool) : (bl A).set j [.bool b] = bl (A.set j b) := by simp [bl, List.map_set]
theorem bl_rep (n : Nat) (b : Bool) : List.replicate n [D.bool b] = bl (List.replicate n b) := by simp [bl]
theorem bl_ne {A : List Bool} (h : A ≠ []) : bl A ≠ [] := by simpa [bl] using h
attribute [go_sem] bl_at bl_len
/-- C up to j, no behind. -/
def pre (C : List Bool) (j : Nat) : List Bool := C.take j ++ List.replicate (C.length - j) false
theorem pre_len (C : List Bool) {j : Nat} (h : j ≤ C.length) : (pre C j).length = C.length := by simp [pre]; omega
theorem pre_zero (C : List Bool) : pre C 0 = List.replicate C.length false := by simp [pre]
theorem pre_all (C : List Bool) : pre C C.length = C := by simp [pre]
theorem pre_at (C : List Bool) {j : Nat} (h : j < C.length) : (pre C j)[j]? = some false := by
  unfold pre
  rw [List.getElem?_append_right (by simp; omega)]
  simp [List.getElem?_replicate]
  omega
theorem pre_set {C : List Bool} {j : Nat} {c : Bool} (h : C[j]? = some c) : (pre C j).set j c = pre C (j + 1) := by
  have hj := (List.getElem?_eq_some_iff.1 h).1
  unfold pre
  rw [List.set_append_right _ _ (by simp; omega)]
  have h1 : j - (C.take j).length = 0 := by simp; omega
  rw [h1, show C.length - j = (C.length - (j + 1)) + 1 by omega, List.replicate_succ, List.set_cons_zero, List.take_add_one, h]
  simp
end Go.Proofs.Ytpdamhhaepcffaa.AE
/-
  regexec: sets of offsets, and what an expression matches, in plain words. No program in sight.
-/
set_option linter.unusedVariables false
set_option linter.unusedSimpArgs false
namespace Go.Proofs.Ytpdamhhaepcffaa.AE
open Classical
abbrev Rl := Nat → Nat → Prop
/-- j is in the set A. -/
def On (A : List Bool) (j : Nat) : Prop := A[j]? = some true
theorem on_lt {A : List Bool} {j : Nat} (h : On A j) : j < A.length := (List.getElem?_eq_some_iff.1 h).1
theorem bext {A B : List Bool} (hl : A.length = B.length) (h : ∀ j, j < A.length → (On A j ↔ On B j)) : A = B := by
  refine List.ext_getElem hl fun j h1 h2 => ?_
  have := h j h1
  unfold On at this
  rw [List.getElem?_eq_getElem h1, List.getElem?_eq_getElem h2] at this
  simp only [Option.some.injEq] at this
  cases ha : A[j] <;> cases hb : B[j] <;> simp [ha, hb] at this ⊢
noncomputable def img (n : Nat) (R : Rl) (X : List Bool) : List Bool := (List.range n).map fun j => decide (∃ i, On X i ∧ R i j)
theorem img_len (n : Nat) (R : Rl) (X : List Bool) : (img n R X).length = n := by simp [img]
theorem on_img {n : Nat} {R : Rl} {X : List Bool} {j : Nat} : On (img n R X) j ↔ j < n ∧ ∃ i, On X i ∧ R i j := by
  unfold On img
  rw [List.getElem?_map]
  by_cases hj : j < n
  · rw [List.getElem?_range hj]
    simp only [Option.map_some, Option.some.injEq, hj, true_and]
    exact ⟨of_decide_eq_true, fun h => decide_eq_true h⟩
  · rw [List.getElem?_eq_none (by simp; omega)]
    simp [hj]
def non (n : Nat) : List Bool := List.replicate n false
theorem non_len (n : Nat) : (non n).length = n := by simp [non]
theorem on_non {n j : Nat} : ¬ On (non n) j := by
  unfold On non
  rw [List.getElem?_replicate]
  split <;> simp
def orB (A B : List Bool) : List Bool := List.zipWith (· || ·) A B
theorem orB_len {A B : List Bool} (h : A.length = B.length) : (orB A B).length = A.length := by simp [orB, h]
theorem on_or {A B : List Bool} (h : A.length = B.length) {j : Nat} : On (orB A B) j ↔ On A j ∨ On B j := by
  unfold On orB
  rw [List.getElem?_zipWith]
  rcases Nat.lt_or_ge j A.length with hj | hj
  · rw [List.getElem?_eq_getElem hj, List.getElem?_eq_getElem (show j < B.length by omega)]
    simp
  · rw [List.getElem?_eq_none hj, List.getElem?_eq_none (by omega)]
    simp
def some_ (A : List Bool) : Bool := A.any id
theorem some_iff {A : List Bool} : some_ A = true ↔ ∃ j, On A j := by
  unfold some_ On
  rw [List.any_eq_true]
  constructor
  · rintro ⟨x, hx, hh⟩
    obtain ⟨i, hi⟩ := List.getElem?_of_mem hx
    simp only [id_eq] at hh
    exact ⟨i, by rw [hi, hh]⟩
  · rintro ⟨j, hj⟩
    exact ⟨true, List.mem_of_getElem? hj, rfl⟩
theorem cnt_le {A B : List Bool} : ∀ (hl : A.length = B.length) (h : ∀ j, On A j → On B j), A.count true ≤ B.count true := by
  induction A generalizing B with
  | nil => intro hl h; simp
  | cons a r ih =>
    intro hl h
    cases B with
    | nil => cases hl
    | cons b q =>
      have h0 := h 0
      have h1 := ih (B := q) (by simpa using hl) (fun j hj => by have := h (j + 1); unfold On at this hj ⊢; simpa using this (by simpa using hj))
      cases a <;> cases b <;> simp [On] at h0 ⊢ <;> omega
theorem cnt_lt {A B : List Bool} : ∀ (hl : A.length = B.length) (h : ∀ j, On A j → On B j), A ≠ B → A.count true < B.count true := by
  induction A generalizing B with
  | nil => intro hl h hn; cases B with | nil => exact absurd rfl hn | cons => cases hl
  | cons a r ih =>
    intro hl h hn
    cases B with
    | nil => cases hl
    | cons b q =>
      have h0 := h 0
      have hs : ∀ j, On r j → On q j := fun j hj => by have := h (j + 1); unfold On at this hj ⊢; simpa using this (by simpa using hj)
      have hl' : r.length = q.length := by simpa using hl
      by_cases hrq : r = q
      · subst hrq
        cases a <;> cases b <;> simp [On] at h0 hn ⊢
      · have h1 := ih hl' hs hrq
        cases a <;> cases b <;> simp [On] at h0 ⊢ <;> omega
theorem cnt_len (A : List Bool) : A.count true ≤ A.length := List.count_le_length
/-! ### powers -/
def pw (R : Rl) : Nat → Rl
  | 0, i, j => i = j
  | m + 1, i, j => ∃ q, pw R m i q ∧ R q j
noncomputable def pI (n : Nat) (R : Rl) (X : List Bool) : Nat → List Bool
  | 0 => X
  | m + 1 => img n R (pI n R X m)
theorem pI_len {n : Nat} {R : Rl} {X : List Bool} (hX : X.length = n) : ∀ m, (pI n R X m).length = n
  | 0 => hX
  | m + 1 => img_len _ _ _
/-- A relation between offsets of a string of n - 1 bytes. -/
def Wf (n : Nat) (R : Rl) : Prop := ∀ i j, i < n → R i j → i ≤ j ∧ j < n
theorem on_pI {n : Nat} {R : Rl} (hR : Wf n R) {X : List Bool} (hX : X.length = n) : ∀ m j, On (pI n R X m) j ↔ ∃ i, On X i ∧ pw R m i j
  | 0, j => by simp [pI, pw]
  | m + 1, j => by
    show On (img n R (pI n R X m)) j ↔ _
    rw [on_img]
    constructor
    · rintro ⟨hj, q, hq, hr⟩
      obtain ⟨i, hi, hp⟩ := (on_pI hR hX m q).1 hq
      exact ⟨i, hi, q, hp, hr⟩
    · rintro ⟨i, hi, q, hp, hr⟩
      have hq := (on_pI hR hX m q).2 ⟨i, hi, hp⟩
      have hqn : q < n := by have := on_lt hq; rw [pI_len hX] at this; exact this
      exact ⟨(hR q j hqn hr).2, q, hq, hr⟩
/-- From low to high copies; no bound if high is negative. -/
def rep (R : Rl) (low high : Int) : Rl := fun i j => ∃ m : Nat, low ≤ m ∧ (high < 0 ∨ (m : Int) ≤ high) ∧ pw R m i j
theorem pw_wf {n : Nat} {R : Rl} (hR : Wf n R) : ∀ m, Wf n (pw R m)
  | 0 => fun i j hi h => by
    have h : i = j := h
    subst h; exact ⟨Nat.le_refl _, hi⟩
  | m + 1 => fun i j hi h => by
    obtain ⟨q, h1, h2⟩ := h
    have h3 := pw_wf hR m i q hi h1
    have h4 := hR q j h3.2 h2
    omega
theorem rep_wf {n : Nat} {R : Rl} (hR : Wf n R) (low high : Int) : Wf n (rep R low high) := fun i j hi h => by
  obtain ⟨m, _, _, hp⟩ := h
  exact pw_wf hR m i j hi hp
theorem on_rep {n : Nat} {R : Rl} (hR : Wf n R) {X : List Bool} (hX : X.length = n) {low high : Int} {j : Nat} : On (img n (rep R low high) X) j ↔ ∃ m : Nat, low ≤ m ∧ (high < 0 ∨ (m : Int) ≤ high) ∧ On (pI n R X m) j := by
  rw [on_img]
  constructor
  · rintro ⟨hj, i, hi, m, h1, h2, hp⟩
    exact ⟨m, h1, h2, (on_pI hR hX m j).2 ⟨i, hi, hp⟩⟩
  · rintro ⟨m, h1, h2, hp⟩
    have hj : j < n := by have := on_lt hp; rw [pI_len hX] at this; exact this
    obtain ⟨i, hi, hp⟩ := (on_pI hR hX m j).1 hp
    exact ⟨hj, i, hi, m, h1, h2, hp⟩
/-! ### the program's way of repeating -/
noncomputable def uI (n : Nat) (R : Rl) (X : List Bool) (low : Int) : Nat → List Bool
  | 0 => non n
  | m + 1 => if low ≤ (m : Int) then orB (uI n R X low m) (pI n R X m) else uI n R X low m
theorem uI_len {n : Nat} {R : Rl} {X : List Bool} (hX : X.length = n) (low : Int) : ∀ m, (uI n R X low m).length = n
  | 0 => non_len n
  | m + 1 => by
    unfold uI
    split
    · rw [orB_len (by rw [uI_len hX low m, pI_len hX]), uI_len hX low m]
    · exact uI_len hX low m
theorem on_uI {n : Nat} {R : Rl} {X : List Bool} (hX : X.length = n) {low : Int} : ∀ m j, On (uI n R X low m) j ↔ ∃ q : Nat, low ≤ q ∧ q < m ∧ On (pI n R X q) j
  | 0, j => by
    constructor
    · intro h; exact absurd h on_non
    · rintro ⟨q, _, hq, _⟩; omega
  | m + 1, j => by
    unfold uI
    split
    · rename_i hm
      rw [on_or (by rw [uI_len hX, pI_len hX]), on_uI hX m j]
      constructor
      · rintro (⟨q, h1, h2, h3⟩ | h)
        · exact ⟨q, h1, by omega, h3⟩
        · exact ⟨m, hm, by omega, h⟩
      · rintro ⟨q, h1, h2, h3⟩
        by_cases hq : q = m
        · subst hq; exact .inr h3
        · exact .inl ⟨q, h1, by omega, h3⟩
    · rename_i hm
      rw [on_uI hX m j]
      constructor
      · rintro ⟨q, h1, h2, h3⟩; exact ⟨q, h1, by omega, h3⟩
      · rintro ⟨q, h1, h2, h3⟩
        exact ⟨q, h1, by omega, h3⟩
section
variable {n : Nat} {R : Rl} {X : List Bool}
theorem img_mono {A B : List Bool} (h : ∀ j, On A j → On B j) {j : Nat} (hj : On (img n R A) j) : On (img n R B) j := by
  obtain ⟨h1, i, h2, h3⟩ := on_img.1 hj
  exact on_img.2 ⟨h1, i, h i h2, h3⟩
theorem pI_fix (m : Nat) (h : pI n R X (m + 1) = pI n R X m) : ∀ q, m ≤ q → pI n R X q = pI n R X m := by
  intro q hq
  induction hq with
  | refl => rfl
  | step _ ih => exact (show img n R (pI n R X _) = _ by rw [ih]; exact h)
theorem pI_none (m : Nat) (h : ∀ j, ¬ On (pI n R X m) j) : ∀ q, m ≤ q → ∀ j, ¬ On (pI n R X q) j := by
  intro q hq
  induction hq with
  | refl => exact h
  | step _ ih =>
    intro j hj
    obtain ⟨_, i, hi, _⟩ := on_img.1 (show On (img n R (pI n R X _)) j from hj)
    exact ih i hi
variable {low high : Int}
/-- It is all there: nothing new came. -/
theorem ex1 (hR : Wf n R) (hX : X.length = n) {m : Nat} (h0 : 0 ≤ low) (hm : low < (m : Int)) (h : orB (uI n R X low m) (pI n R X m) = uI n R X low m) (hh : high < 0) : uI n R X low m = img n (rep R low high) X := by
  have hsub : ∀ j, On (pI n R X m) j → On (uI n R X low m) j := fun j hj => by
    rw [← h, on_or (by rw [uI_len hX, pI_len hX])]; exact .inr hj
  have all : ∀ q : Nat, low ≤ q → ∀ j, On (pI n R X q) j → On (uI n R X low m) j := by
    intro q
    induction q with
    | zero =>
      intro hq j hj
      exact (on_uI hX m j).2 ⟨0, hq, by omega, hj⟩
    | succ q ih =>
      intro hq j hj
      by_cases hlt : q + 1 < m
      · exact (on_uI hX m j).2 ⟨q + 1, hq, hlt, hj⟩
      · by_cases he : q + 1 = m
        · rw [he] at hj; exact hsub j hj
        · have h1 := ih (by omega)
          have h2 := img_mono (n := n) (R := R) h1 (show On (img n R (pI n R X q)) j from hj)
          obtain ⟨h3, i, h4, h5⟩ := on_img.1 h2
          obtain ⟨z, z1, z2, z3⟩ := (on_uI hX m i).1 h4
          have h6 : On (pI n R X (z + 1)) j := on_img.2 ⟨h3, i, z3, h5⟩
          by_cases hz : z + 1 = m
          · rw [hz] at h6; exact hsub j h6
          · exact (on_uI hX m j).2 ⟨z + 1, by omega, by omega, h6⟩
  refine bext (by rw [uI_len hX, img_len]) fun j hj => ?_
  rw [on_rep hR hX]
  constructor
  · intro h
    obtain ⟨q, h1, h2, h3⟩ := (on_uI hX m j).1 h
    exact ⟨q, h1, .inl hh, h3⟩
  · rintro ⟨q, h1, _, h3⟩
    exact all q h1 j h3
/-- The bound is reached. -/
theorem ex2 (hR : Wf n R) (hX : X.length = n) {m : Nat} (hm : (m : Int) = high) : uI n R X low (m + 1) = img n (rep R low high) X := by
  refine bext (by rw [uI_len hX, img_len]) fun j hj => ?_
  rw [on_rep hR hX, on_uI hX]
  constructor
  · rintro ⟨q, h1, h2, h3⟩; exact ⟨q, h1, .inr (by omega), h3⟩
  · rintro ⟨q, h1, h2, h3⟩; exact ⟨q, h1, by omega, h3⟩
/-- Nothing is left. -/
theorem ex3 (hR : Wf n R) (hX : X.length = n) {m : Nat} (hm : high < 0 ∨ (m : Int) ≤ high) (h : some_ (pI n R X m) = false) : uI n R X low (m + 1) = img n (rep R low high) X := by
  have hno : ∀ j, ¬ On (pI n R X m) j := fun j hj => by rw [some_iff.2 ⟨j, hj⟩] at h; cases h
  refine bext (by rw [uI_len hX, img_len]) fun j hj => ?_
  rw [on_rep hR hX, on_uI hX]
  constructor
  · rintro ⟨q, h1, h2, h3⟩; exact ⟨q, h1, by omega, h3⟩
  · rintro ⟨q, h1, h2, h3⟩
    refine ⟨q, h1, ?_, h3⟩
    rcases Nat.lt_or_ge q m with h4 | h4
    · omega
    · exact absurd h3 (pI_none m hno q h4 j)
/-- The next is the same. -/
theorem ex4 (hR : Wf n R) (hX : X.length = n) {m : Nat} (hl : high < 0 ∨ low ≤ high) (hm : high < 0 ∨ (m : Int) ≤ high) (h : pI n R X (m + 1) = pI n R X m) : orB (uI n R X low (m + 1)) (pI n R X m) = img n (rep R low high) X := by
  have hfix := pI_fix m h
  have hll : (uI n R X low (m + 1)).length = (pI n R X m).length := by rw [uI_len hX, pI_len hX]
  refine bext (by rw [orB_len hll, uI_len hX, img_len]) fun j hj => ?_
  rw [on_rep hR hX, on_or hll, on_uI hX]
  constructor
  · rintro (⟨q, h1, h2, h3⟩ | h)
    · exact ⟨q, h1, by omega, h3⟩
    · rcases Int.lt_or_le low (m : Int) with h4 | h4
      · exact ⟨m, by omega, by omega, h⟩
      · have : ∃ z : Nat, (z : Int) = low := ⟨low.toNat, by omega⟩
        obtain ⟨z, hz⟩ := this
        exact ⟨z, by omega, by omega, by rw [hfix z (by omega)]; exact h⟩
  · rintro ⟨q, h1, h2, h3⟩
    rcases Nat.lt_or_ge q (m + 1) with h4 | h4
    · exact .inl ⟨q, h1, h4, h3⟩
    · rw [hfix q (by omega)] at h3
      exact .inr h3
/-- How long it goes on without a bound. -/
theorem uI_cnt (hX : X.length = n) {m : Nat} (hm : low ≤ (m : Int)) (h : orB (uI n R X low m) (pI n R X m) ≠ uI n R X low m) : (uI n R X low m).count true < (uI n R X low (m + 1)).count true := by
  have he : uI n R X low (m + 1) = orB (uI n R X low m) (pI n R X m) := by
    rw [uI, if_pos hm]
  rw [he]
  have hll : (uI n R X low m).length = (pI n R X m).length := by rw [uI_len hX, pI_len hX]
  refine cnt_lt (by rw [orB_len hll]) (fun j hj => (on_or hll).2 (.inl hj)) fun he => h he.symm
end
end Go.Proofs.Ytpdamhhaepcffaa.AE
/-
  regexec: the reference's way of repeating; what an expression matches. No program in sight.
-/
set_option linter.unusedVariables false
set_option linter.unusedSimpArgs false
namespace Go.Proofs.Ytpdamhhaepcffaa.AE
open Classical
def newB (A B : List Bool) : List Bool := List.zipWith (fun a b => a && !b) A B
theorem newB_len {A B : List Bool} (h : A.length = B.length) : (newB A B).length = A.length := by simp [newB, h]
theorem on_new {A B : List Bool} (h : A.length = B.length) {j : Nat} : On (newB A B) j ↔ On A j ∧ ¬ On B j := by
  unfold On newB
  rw [List.getElem?_zipWith]
  rcases Nat.lt_or_ge j A.length with hj | hj
  · rw [List.getElem?_eq_getElem hj, List.getElem?_eq_getElem (show j < B.length by omega)]
    simp
  · rw [List.getElem?_eq_none hj, List.getElem?_eq_none (by omega)]
    simp
noncomputable def aI (n : Nat) (R : Rl) (L : List Bool) : Nat → List Bool × List Bool
  | 0 => (L, L)
  | t + 1 => (orB (aI n R L t).1 (img n R (aI n R L t).2), newB (img n R (aI n R L t).2) (aI n R L t).1)
section
variable {n : Nat} {R : Rl} {L X : List Bool} {low high : Int}
theorem aI_len (hL : L.length = n) : ∀ t, (aI n R L t).1.length = n ∧ (aI n R L t).2.length = n
  | 0 => ⟨hL, hL⟩
  | t + 1 => by
    have h := aI_len hL t
    refine ⟨?_, ?_⟩
    · show (orB _ _).length = n
      rw [orB_len (by rw [h.1, img_len]), h.1]
    · show (newB _ _).length = n
      rw [newB_len (by rw [h.1, img_len]), img_len]
theorem aI_inv (hL : L.length = n) : ∀ t, (∀ i, On (aI n R L t).2 i → On (aI n R L t).1 i) ∧ (∀ i j, On (aI n R L t).1 i → ¬ On (aI n R L t).2 i → R i j → j < n → On (aI n R L t).1 j)
  | 0 => ⟨fun i h => h, fun i j h hn => absurd h hn⟩
  | t + 1 => by
    have ih := aI_inv hL t
    have hl := aI_len (R := R) hL t
    have l1 : (aI n R L t).1.length = (img n R (aI n R L t).2).length := by rw [hl.1, img_len]
    have e1 : ∀ j, On (aI n R L (t + 1)).1 j ↔ On (aI n R L t).1 j ∨ On (img n R (aI n R L t).2) j := fun j => on_or l1
    have e2 : ∀ j, On (aI n R L (t + 1)).2 j ↔ On (img n R (aI n R L t).2) j ∧ ¬ On (aI n R L t).1 j := fun j => on_new l1.symm
    refine ⟨fun i h => (e1 i).2 (.inr ((e2 i).1 h).1), fun i j h hn hr hj => ?_⟩
    rw [e1] at h ⊢
    rw [e2] at hn
    have hi : On (aI n R L t).1 i := by
      by_cases hc : On (aI n R L t).1 i
      · exact hc
      · exact absurd ⟨h.resolve_left hc, hc⟩ hn
    by_cases he : On (aI n R L t).2 i
    · exact .inr (on_img.2 ⟨hj, i, he, hr⟩)
    · exact .inl (ih.2 i j hi he hr hj)
theorem on_aI (hR : Wf n R) (hL : L.length = n) : ∀ t j, On (aI n R L t).1 j ↔ ∃ m, m ≤ t ∧ On (pI n R L m) j
  | 0, j => by
    constructor
    · intro h; exact ⟨0, Nat.le_refl _, h⟩
    · rintro ⟨m, hm, h⟩
      obtain rfl : m = 0 := by omega
      exact h
  | t + 1, j => by
    have ih := on_aI hR hL t
    have iv := aI_inv (R := R) hL t
    have hl := aI_len (R := R) hL t
    have l1 : (aI n R L t).1.length = (img n R (aI n R L t).2).length := by rw [hl.1, img_len]
    have e1 : On (aI n R L (t + 1)).1 j ↔ On (aI n R L t).1 j ∨ On (img n R (aI n R L t).2) j := on_or l1
    rw [e1]
    constructor
    · rintro (h | h)
      · obtain ⟨m, hm, hp⟩ := (ih j).1 h
        exact ⟨m, by omega, hp⟩
      · obtain ⟨h1, i, h2, h3⟩ := on_img.1 h
        obtain ⟨m, hm, hp⟩ := (ih i).1 (iv.1 i h2)
        exact ⟨m + 1, by omega, on_img.2 ⟨h1, i, hp, h3⟩⟩
    · rintro ⟨m, hm, hp⟩
      by_cases hmt : m ≤ t
      · exact .inl ((ih j).2 ⟨m, hmt, hp⟩)
      · obtain ⟨q, rfl⟩ : ∃ q, m = q + 1 := ⟨m - 1, by omega⟩
        obtain ⟨h1, i, h2, h3⟩ := on_img.1 (show On (img n R (pI n R L q)) j from hp)
        have hi := (ih i).2 ⟨q, by omega, h2⟩
        by_cases he : On (aI n R L t).2 i
        · exact .inr (on_img.2 ⟨h1, i, he, h3⟩)
        · exact .inl (iv.2 i j hi he h3 h1)
theorem pI_add (a : Nat) : ∀ m, pI n R (pI n R X a) m = pI n R X (a + m)
  | 0 => rfl
  | m + 1 => (show img n R (pI n R (pI n R X a) m) = img n R (pI n R X (a + m)) by rw [pI_add a m])
/-- The bound is reached. -/
theorem ey2 (hR : Wf n R) (hX : X.length = n) {a t : Nat} (h : ((a + t : Nat) : Int) = high) : (aI n R (pI n R X a) t).1 = img n (rep R a high) X := by
  have hL := pI_len (R := R) hX a
  refine bext (by rw [(aI_len hL t).1, img_len]) fun j hj => ?_
  rw [on_rep hR hX, on_aI hR hL]
  constructor
  · rintro ⟨m, hm, hp⟩
    rw [pI_add] at hp
    exact ⟨a + m, by omega, by omega, hp⟩
  · rintro ⟨q, h1, h2, h3⟩
    refine ⟨q - a, by omega, ?_⟩
    rw [pI_add, show a + (q - a) = q by omega]
    exact h3
/-- Nothing new. -/
theorem ey3 (hR : Wf n R) (hX : X.length = n) {a t : Nat} (hh : high < 0 ∨ ((a + t : Nat) : Int) ≤ high) (h : some_ (aI n R (pI n R X a) t).2 = false) : (aI n R (pI n R X a) t).1 = img n (rep R a high) X := by
  have hL := pI_len (R := R) hX a
  have hno : ∀ j, ¬ On (aI n R (pI n R X a) t).2 j := fun j hj => by rw [some_iff.2 ⟨j, hj⟩] at h; cases h
  have iv := (aI_inv (R := R) hL t).2
  have all : ∀ m j, On (pI n R (pI n R X a) m) j → On (aI n R (pI n R X a) t).1 j := by
    intro m
    induction m with
    | zero => intro j hj; exact (on_aI hR hL t j).2 ⟨0, by omega, hj⟩
    | succ m ih =>
      intro j hj
      obtain ⟨h1, i, h2, h3⟩ := on_img.1 (show On (img n R (pI n R (pI n R X a) m)) j from hj)
      exact iv i j (ih i h2) (hno i) h3 h1
  refine bext (by rw [(aI_len hL t).1, img_len]) fun j hj => ?_
  rw [on_rep hR hX]
  constructor
  · intro hp
    obtain ⟨m, hm, hp⟩ := (on_aI hR hL t j).1 hp
    rw [pI_add] at hp
    exact ⟨a + m, by omega, by omega, hp⟩
  · rintro ⟨q, h1, h2, h3⟩
    refine all (q - a) j ?_
    rw [pI_add, show a + (q - a) = q by omega]
    exact h3
theorem aI_cnt (hL : L.length = n) {t : Nat} (h : some_ (aI n R L (t + 1)).2 = true) : (aI n R L t).1.count true < (aI n R L (t + 1)).1.count true := by
  have hl := aI_len (R := R) hL t
  have l1 : (aI n R L t).1.length = (img n R (aI n R L t).2).length := by rw [hl.1, img_len]
  have e1 : ∀ j, On (aI n R L (t + 1)).1 j ↔ On (aI n R L t).1 j ∨ On (img n R (aI n R L t).2) j := fun j => on_or l1
  have e2 : ∀ j, On (aI n R L (t + 1)).2 j ↔ On (img n R (aI n R L t).2) j ∧ ¬ On (aI n R L t).1 j := fun j => on_new l1.symm
  obtain ⟨j, hj⟩ := some_iff.1 h
  rw [e2] at hj
  refine cnt_lt (by rw [(aI_len hL t).1, (aI_len hL (t + 1)).1]) (fun j hj => (e1 j).2 (.inl hj)) fun he => ?_
  have := (e1 j).2 (.inr hj.1)
  rw [← he] at this
  exact hj.2 this
end
/-! ### expressions -/
/-- An expression; z: the set of ranges is nil. -/
inductive Rx where
  | mk (kind : Int) (z : Bool) (set : List (Int × Int)) (min max : Int) (subs : List Rx)
def inSet (set : List (Int × Int)) (c : Int) : Bool := set.any fun r => decide (r.1 ≤ c) && decide (c ≤ r.2)
def wdC (c : Int) : Bool := decide (c = 95) || (decide (48 ≤ c) && decide (c ≤ 57)) || (decide (97 ≤ c) && decide (c ≤ 122)) || (decide (65 ≤ c) && decide (c ≤ 90))
/-- The byte at i belongs to a word. -/
def wdAt (s : ByteArray) (i : Int) : Bool := decide (0 ≤ i) && decide (i < s.size) && wdC (byt s i.toNat)
def stands (k : Int) (s : ByteArray) (i : Nat) : Bool := if k = 5 then decide (i = 0) || decide (byt s (i - 1) = 10) else if k = 6 then decide (i = s.size) || decide (byt s i = 10) else !decide (wdAt s ((i : Int) - 1) = wdAt s i)
def setR (set : List (Int × Int)) (s : ByteArray) : Rl := fun i j => i < s.size ∧ j = i + 1 ∧ inSet set (byt s i) = true
def stR (k : Int) (s : ByteArray) : Rl := fun i j => j = i ∧ i ≤ s.size ∧ stands k s i = true
def cmp (R S : Rl) : Rl := fun i j => ∃ q, R i q ∧ S q j
mutual
/-- What an expression matches from i to j. -/
def Rx.R (s : ByteArray) : Rx → Rl
  | .mk k _ set mn mx subs => if k = 1 then setR set s else if k = 2 then seqR s subs else if k = 3 then altR s subs else if k = 4 then rep (fstR s subs) mn mx else stR k s
def seqR (s : ByteArray) : List Rx → Rl
  | [] => fun i j => i = j
  | r :: q => cmp (r.R s) (seqR s q)
def altR (s : ByteArray) : List Rx → Rl
  | [] => fun _ _ => False
  | r :: q => fun i j => r.R s i j ∨ altR s q i j
def fstR (s : ByteArray) : List Rx → Rl
  | [] => fun _ _ => False
  | r :: _ => r.R s
end
mutual
theorem Rx.wf (s : ByteArray) : ∀ r : Rx, Wf (s.size + 1) (r.R s)
  | .mk k _ set mn mx subs => by
    unfold Rx.R
    split
    · intro i j hi h
      obtain ⟨h1, rfl, _⟩ := h
      omega
    split
    · exact seq_wf s subs
    split
    · exact alt_wf s subs
    split
    · exact rep_wf (fst_wf s subs) mn mx
    · intro i j hi h
      obtain ⟨rfl, h1, _⟩ := h
      omega
theorem seq_wf (s : ByteArray) : ∀ l : List Rx, Wf (s.size + 1) (seqR s l)
  | [] => fun i j hi h => by
    unfold seqR at h
    subst h
    exact ⟨Nat.le_refl _, hi⟩
  | r :: q => fun i j hi h => by
    unfold seqR at h
    obtain ⟨m, h1, h2⟩ := h
    have h3 := Rx.wf s r i m hi h1
    have h4 := seq_wf s q m j h3.2 h2
    omega
theorem alt_wf (s : ByteArray) : ∀ l : List Rx, Wf (s.size + 1) (altR s l)
  | [] => fun i j hi h => by unfold altR at h; exact h.elim
  | r :: q => fun i j hi h => by
    unfold altR at h
    rcases h with h | h
    · exact Rx.wf s r i j hi h
    · exact alt_wf s q i j hi h
theorem fst_wf (s : ByteArray) : ∀ l : List Rx, Wf (s.size + 1) (fstR s l)
  | [] => fun i j hi h => by unfold fstR at h; exact h.elim
  | r :: q => by unfold fstR; exact Rx.wf s r
end
theorem img_cmp {n : Nat} {R S : Rl} (hR : Wf n R) {X : List Bool} (hX : X.length = n) : img n (cmp R S) X = img n S (img n R X) := by
  refine bext (by rw [img_len, img_len]) fun j hj => ?_
  rw [on_img, on_img]
  constructor
  · rintro ⟨h1, i, h2, q, h3, h4⟩
    have hi : i < n := by have := on_lt h2; omega
    exact ⟨h1, q, on_img.2 ⟨(hR i q hi h3).2, i, h2, h3⟩, h4⟩
  · rintro ⟨h1, q, h2, h4⟩
    obtain ⟨h5, i, h6, h7⟩ := on_img.1 h2
    exact ⟨h1, i, h6, q, h7, h4⟩
theorem img_or {n : Nat} {R S : Rl} {X : List Bool} : img n (fun i j => R i j ∨ S i j) X = orB (img n R X) (img n S X) := by
  have hl : (img n R X).length = (img n S X).length := by rw [img_len, img_len]
  refine bext (by rw [orB_len hl, img_len, img_len]) fun j hj => ?_
  rw [on_img, on_or hl, on_img, on_img]
  constructor
  · rintro ⟨h1, i, h2, h3 | h3⟩
    · exact .inl ⟨h1, i, h2, h3⟩
    · exact .inr ⟨h1, i, h2, h3⟩
  · rintro (⟨h1, i, h2, h3⟩ | ⟨h1, i, h2, h3⟩)
    · exact ⟨h1, i, h2, .inl h3⟩
    · exact ⟨h1, i, h2, .inr h3⟩
theorem img_id {n : Nat} {X : List Bool} (hX : X.length = n) : img n (fun i j => i = j) X = X := by
  refine bext (by rw [img_len, hX]) fun j hj => ?_
  rw [on_img]
  constructor
  · rintro ⟨_, i, h, rfl⟩; exact h
  · intro h; exact ⟨by have := on_lt h; omega, j, h, rfl⟩
theorem img_no {n : Nat} {X : List Bool} : img n (fun _ _ => False) X = non n := by
  refine bext (by rw [img_len, non_len]) fun j hj => ?_
  rw [on_img]
  exact ⟨fun h => by obtain ⟨_, _, _, h⟩ := h; exact h.elim, fun h => absurd h on_non⟩
end Go.Proofs.Ytpdamhhaepcffaa.AE
/-
  regexec: sets, in the program and in the reference.
-/
set_option linter.unusedVariables false
set_option linter.unusedSimpArgs false
set_option maxHeartbeats 4000000
set_option maxRecDepth 100000
namespace Go.Proofs.Ytpdamhhaepcffaa.AE
open Go
theorem f33 (A : List Bool) (hl : A.length < 100000000000000) : callP (Lv xp md) 33 [.isl (bl A)] = some [.bool (some_ A)] := by
  refine fn_v (F := F33) rfl ?_
  refine gK ?_
  refine rn_loop (A.length) (fun j st => st.e 0 = .isl (bl A) ∧ st.e 5 = .int .i64 A.length ∧ st.e 6 = .int .i64 j ∧ (∀ i x, i < j → A[i]? = some x → x = false)) (j := 0) ⟨?_, ?_, ?_, fun i x hi => by omega⟩ (Nat.zero_le _) ?_
  all_goals first | exact eA | exact eB | exact eO | exact eC | exact eD | skip
  rintro j ⟨e, h, k⟩ hj ⟨i0, i5, i6, iv⟩
  dsimp only at i0 i5 i6
  rcases nextC hj with ⟨hlt, c1⟩ | ⟨rfl, c1⟩
  · obtain ⟨x, hx⟩ := at_lt hlt
    have w1 := inc64 j (by omega)
    cases x with
    | true =>
      have hs : some_ A = true := some_iff.2 ⟨j, hx⟩
      rw [hs]
      exact gD
    | false =>
      have iv2 := before_succ (p := fun x => x = false) hx rfl iv
      clear iv
      refine gK ?_
      refine ⟨by omega, ?_, ?_, ?_, iv2⟩
      all_goals first | exact eC | exact eO | exact eD | skip
  · have hs : some_ A = false := by
      unfold some_
      exact any_no (p := id) iv
    rw [hs]
    exact gD
theorem f58 (A B : List Bool) (hl : A.length < 100000000000000) (hab : B.length = A.length) : callP (Lv xp md) 58 [.isl (bl A), .isl (bl B)] = some [.bool (decide (A = B))] := by
  refine fn_v (F := F58) rfl ?_
  refine gK ?_
  refine rn_loop (A.length) (fun j st => st.e 0 = .isl (bl A) ∧ st.e 1 = .isl (bl B) ∧ st.e 7 = .int .i64 A.length ∧ st.e 8 = .int .i64 j ∧ (∀ i x, i < j → A[i]? = some x → B[i]? = some x)) (j := 0) ⟨?_, ?_, ?_, ?_, fun i x hi => by omega⟩ (Nat.zero_le _) ?_
  all_goals first | exact eA | exact eB | exact eO | exact eC | exact eD | skip
  rintro j ⟨e, h, k⟩ hj ⟨i0, i1, i7, i8, iv⟩
  dsimp only at i0 i1 i7 i8
  rcases nextC hj with ⟨hlt, c1⟩ | ⟨rfl, c1⟩
  · obtain ⟨x, hx⟩ := at_lt hlt
    obtain ⟨y, hy⟩ := at_lt (show j < B.length by omega)
    have w1 := inc64 j (by omega)
    cases hxy : decide (x = y) with
    | true =>
      obtain rfl := of_decide_eq_true hxy
      have iv2 := before_suc2 (p := fun i x => B[i]? = some x) hx hy iv
      clear iv
      refine gK ?_
      refine ⟨by omega, ?_, ?_, ?_, ?_, iv2⟩
      all_goals first | exact eC | exact eO | exact eD | skip
    | false =>
      have hne : decide (A = B) = false := decide_eq_false fun he => by
        subst he; rw [hx] at hy; exact of_decide_eq_false hxy (Option.some.inj hy)
      rw [hne]
      exact gD
  · have he : A = B := List.ext_getElem? fun i => by
      rcases Nat.lt_or_ge i A.length with hi | hi
      · obtain ⟨x, hx⟩ := at_lt hi
        rw [hx, iv i x hi hx]
      · rw [List.getElem?_eq_none hi, List.getElem?_eq_none (by omega)]
    rw [decide_eq_true he]
    exact gD
theorem f60 (A B : List Bool) (hl : A.length < 100000000000000) (hab : B.length = A.length) : callP (Lv xp md) 60 [.isl (bl A), .isl (bl B)] = some [.bool (decide (A = B))] := by
  refine fn_v (F := F60) rfl ?_
  refine gK ?_
  refine rn_loop (A.length) (fun j st => st.e 0 = .isl (bl A) ∧ st.e 1 = .isl (bl B) ∧ st.e 5 = .int .i64 j ∧ (∀ i x, i < j → A[i]? = some x → B[i]? = some x)) (j := 0) ⟨?_, ?_, ?_, fun i x hi => by omega⟩ (Nat.zero_le _) ?_
  all_goals first | exact eA | exact eB | exact eO | exact eC | exact eD | skip
  rintro j ⟨e, h, k⟩ hj ⟨i0, i1, i5, iv⟩
  dsimp only at i0 i1 i5
  rcases nextC hj with ⟨hlt, c1⟩ | ⟨rfl, c1⟩
  · obtain ⟨x, hx⟩ := at_lt hlt
    obtain ⟨y, hy⟩ := at_lt (show j < B.length by omega)
    have w1 := inc64 j (by omega)
    cases hxy : decide (x = y) with
    | true =>
      obtain rfl := of_decide_eq_true hxy
      have iv2 := before_suc2 (p := fun i x => B[i]? = some x) hx hy iv
      clear iv
      refine gK ?_
      refine ⟨by omega, ?_, ?_, ?_, iv2⟩
      all_goals first | exact eC | exact eO | exact eD | skip
    | false =>
      have hne : decide (A = B) = false := decide_eq_false fun he => by
        subst he; rw [hx] at hy; exact of_decide_eq_false hxy (Option.some.inj hy)
      rw [hne]
      exact gD
  · have he : A = B := List.ext_getElem? fun i => by
      rcases Nat.lt_or_ge i A.length with hi | hi
      · obtain ⟨x, hx⟩ := at_lt hi
        rw [hx, iv i x hi hx]
      · rw [List.getElem?_eq_none hi, List.getElem?_eq_none (by omega)]
    rw [decide_eq_true he]
    exact gD
theorem orB_at {A B : List Bool} {j : Nat} {a b : Bool} (ha : A[j]? = some a) (hb : B[j]? = some b) : (orB A B)[j]? = some (a || b) := by
  unfold orB
  rw [List.getElem?_zipWith, ha, hb]
theorem newB_at {A B : List Bool} {j : Nat} {a b : Bool} (ha : A[j]? = some a) (hb : B[j]? = some b) : (newB A B)[j]? = some (a && !b) := by
  unfold newB
  rw [List.getElem?_zipWith, ha, hb]
theorem f43 (A B : List Bool) (hl : A.length ≤ 1000) (hab : B.length = A.length) : callP (Lv xp md) 43 [.isl (bl A), .isl (bl B)] = some [.own 4 1 (bl (orB A B))] := by
  refine fn_v (F := F43) rfl ?_
  have hC := orB_len (A := A) (B := B) hab.symm
  have h0 : A.length ≤ 68719476736 := by omega
  refine gK ?_
  generalize hCe : orB A B = C at *
  have p0 : List.replicate A.length [D.bool false] = bl (pre C 0) := by rw [pre_zero, hC, bl_rep]
  refine rn_loop (A.length) (fun j st => st.e 0 = .isl (bl A) ∧ st.e 1 = .isl (bl B) ∧ st.e 5 = .osl 24 ∧ st.e 11 = .int .i64 A.length ∧ st.e 12 = .int .i64 j ∧ st.h 24 = .row 4 1 (bl (pre C j)) true ∧ 64 ≤ st.k) (j := 0) ⟨?_, ?_, ?_, ?_, ?_, ?_, ?_⟩ (Nat.zero_le _) ?_
  all_goals first | exact eA | exact eB | exact eO | exact eC | exact eD | skip
  rintro j ⟨e, h, k⟩ hj ⟨i0, i1, i5, i11, i12, b24, ik⟩
  dsimp only at i0 i1 i5 i11 i12 b24 ik
  have n1 : ∀ c, c < 64 → (c = k) = False := fun c hc => by simp; omega
  have n2 : ∀ c, c < 64 → (k = c) = False := fun c hc => by simp; omega
  rcases nextC hj with ⟨hlt, c1⟩ | ⟨rfl, c1⟩
  · obtain ⟨x, hx⟩ := at_lt hlt
    obtain ⟨y, hy⟩ := at_lt (show j < B.length by omega)
    have w1 := inc64 j (by omega)
    have hc : C[j]? = some (x || y) := by rw [← hCe]; exact orB_at hx hy
    have p1 := pre_at C (j := j) (by omega)
    have p2 := pre_set hc
    have p3 := bl_set (pre C j) j (x || y)
    have p4 : j < (pre C j).length := by rw [pre_len C (by omega)]; omega
    rw [p2] at p3
    clear hCe hc p2
    cases x
    · rw [Bool.false_or] at p3
      refine gK ?_
      refine ⟨by omega, ?_, ?_, ?_, ?_, ?_, ?_, ?_⟩
      all_goals first | exact eC | exact eO | exact eD | skip
    · rw [Bool.true_or] at p3
      refine gK ?_
      refine ⟨by omega, ?_, ?_, ?_, ?_, ?_, ?_, ?_⟩
      all_goals first | exact eC | exact eO | exact eD | skip
  · have p1 := pre_all C
    rw [hC] at p1
    rw [p1] at b24
    exact gD
theorem f49 (s : ByteArray) (i : Int) (h1 : -1000000000000 ≤ i) (h2 : i < 1000000000000) (hs : s.size < 1000000000000) : callP (Lv xp md) 49 [.str s, .int .i64 i] = some [.bool (wdAt s i)] := by
  refine fn_v (F := F49) rfl ?_
  by_cases h0 : 0 ≤ i
  · obtain ⟨m, rfl⟩ : ∃ m : Nat, i = m := ⟨i.toNat, by omega⟩
    have c0 : decide ((m : Int) < 0) = false := by simp
    rcases Nat.lt_or_ge m s.size with hm | hm
    · have c1 : decide ((s.size : Int) ≤ (m : Int)) = false := by simp; omega
      have hw : wdAt s m = wdC (byt s m) := by
        unfold wdAt
        simp only [Int.toNat_natCast, show decide (0 ≤ (m : Int)) = true by simp, show decide ((m : Int) < (s.size : Int)) = true by simp; omega, Bool.true_and]
      rw [hw]
      have hx := ixD_at hm
      generalize byt s m = c at *
      generalize hu : wdC c = u
      have huh : Hid (wdC c = u) := hu
      clear hu hw
      repeat' (first | intro _ | ((with_reducible first | apply s_p | apply s_n); rotate_left 1; exact ev_; rfl) | (with_reducible first | apply s_zn | apply s_zb | apply rn_seq | apply rn_blk | apply w_sn | apply w_sb | apply x_b0 | apply x_nx | apply r_nx | apply r_bk | apply n_nx | apply n_bk | apply q_nx | apply q_bk) | ((with_reducible apply s_gt); rotate_left 1; exact ev_) | ((with_reducible apply s_gf); rotate_left 1; exact a0_) | ((with_reducible apply s_gu); rotate_left 1; exact ev_) | ((with_reducible apply s_cs); rotate_left 1; rfl; exact ev_; exact fv_; rfl) | ((with_reducible apply s_cv); rotate_left 1; rfl; exact ev_; exact fv_; exact a1_; exact a2_; exact tk_) | ((with_reducible apply s_vs); rotate_left 1; exact ev_; rfl; exact ev_; exact fv_; rfl) | ((with_reducible first | apply s_g1 | apply s_g0); rotate_left 2; exact ev_) | ((with_reducible first | apply w_r | apply w_d); rotate_left 1; exact a7_; exact a8_) | ((with_reducible apply w_t); rotate_left 1; exact ev_) | ((with_reducible apply w_f); rotate_left 1; exact ev_) | ((with_reducible apply w_i); rotate_left 2; exact ev_) | ((with_reducible apply x_b1); rotate_left 1; (decide)) | ((with_reducible first | apply f_q | apply f_r | apply f_n | apply g_r | apply g_n); rotate_left 1; exact a9_; exact ev_) | ((with_reducible first | apply d_p | apply d_n); rotate_left 1; exact ev_; rfl; exact a3_; exact a4_) | ((with_reducible apply d_cs); rotate_left 1; rfl; exact ev_; exact fv_; rfl; exact a5_; exact a4_) | ((with_reducible apply d_cv); rotate_left 1; rfl; exact ev_; exact fv_; exact a1_; exact a2_; exact tk_; exact a6_; exact a4_) | ((with_reducible apply d_gt); rotate_left 1; exact ev_) | ((with_reducible apply d_gf); rotate_left 1; exact a0_) | ((with_reducible apply d_gu); rotate_left 1; exact ev_) | (with_reducible first | apply d_zn | apply d_zb) | ((with_reducible first | apply d_g1 | apply d_g0); rotate_left 2; exact ev_) | exact pr_ | fail)
      all_goals
        have hu : wdC c = u := huh
        rw [← hu]
        simp only [wdC, *, Bool.true_and, Bool.false_and, Bool.and_true, Bool.and_false, Bool.or_true, Bool.or_false, Bool.true_or, Bool.false_or]
    · have c1 : decide ((s.size : Int) ≤ (m : Int)) = true := by simp; omega
      have hw : wdAt s m = false := by
        unfold wdAt
        simp only [show decide ((m : Int) < (s.size : Int)) = false by simp; omega, Bool.and_false, Bool.false_and]
      rw [hw]
      exact gD
      all_goals rfl
  · have c0 : decide (i < 0) = true := by simp; omega
    have hw : wdAt s i = false := by
      unfold wdAt
      simp only [show decide (0 ≤ i) = false by simp; omega, Bool.false_and]
    rw [hw]
    exact gD
    all_goals rfl
end Go.Proofs.Ytpdamhhaepcffaa.AE
/-
  regexec: the reference's word, stands, none, both, fresh; start.
-/
set_option linter.unusedVariables false
set_option linter.unusedSimpArgs false
set_option maxHeartbeats 4000000
set_option maxRecDepth 100000
namespace Go.Proofs.Ytpdamhhaepcffaa.AE
open Go
theorem f61 (s : ByteArray) (i : Int) (h1 : -1000000000000 ≤ i) (h2 : i < 1000000000000) (hs : s.size < 1000000000000) : callP (Lv xp md) 61 [.str s, .int .i64 i] = some [.bool (wdAt s i)] := by
  refine fn_v (F := F61) rfl ?_
  by_cases h0 : 0 ≤ i
  · obtain ⟨m, rfl⟩ : ∃ m : Nat, i = m := ⟨i.toNat, by omega⟩
    have c0 : decide ((m : Int) < 0) = false := by simp
    rcases Nat.lt_or_ge m s.size with hm | hm
    · have c1 : decide ((s.size : Int) ≤ (m : Int)) = false := by simp; omega
      have hw : wdAt s m = wdC (byt s m) := by
        unfold wdAt
        simp only [Int.toNat_natCast, show decide (0 ≤ (m : Int)) = true by simp, show decide ((m : Int) < (s.size : Int)) = true by simp; omega, Bool.true_and]
      rw [hw]
      have hx := ixD_at hm
      generalize byt s m = c at *
      generalize hu : wdC c = u
      have huh : Hid (wdC c = u) := hu
      clear hu hw
      repeat' (first | intro _ | ((with_reducible first | apply s_p | apply s_n); rotate_left 1; exact ev_; rfl) | (with_reducible first | apply s_zn | apply s_zb | apply rn_seq | apply rn_blk | apply w_sn | apply w_sb | apply x_b0 | apply x_nx | apply r_nx | apply r_bk | apply n_nx | apply n_bk | apply q_nx | apply q_bk) | ((with_reducible apply s_gt); rotate_left 1; exact ev_) | ((with_reducible apply s_gf); rotate_left 1; exact a0_) | ((with_reducible apply s_gu); rotate_left 1; exact ev_) | ((with_reducible apply s_cs); rotate_left 1; rfl; exact ev_; exact fv_; rfl) | ((with_reducible apply s_cv); rotate_left 1; rfl; exact ev_; exact fv_; exact a1_; exact a2_; exact tk_) | ((with_reducible apply s_vs); rotate_left 1; exact ev_; rfl; exact ev_; exact fv_; rfl) | ((with_reducible first | apply s_g1 | apply s_g0); rotate_left 2; exact ev_) | ((with_reducible first | apply w_r | apply w_d); rotate_left 1; exact a7_; exact a8_) | ((with_reducible apply w_t); rotate_left 1; exact ev_) | ((with_reducible apply w_f); rotate_left 1; exact ev_) | ((with_reducible apply w_i); rotate_left 2; exact ev_) | ((with_reducible apply x_b1); rotate_left 1; (decide)) | ((with_reducible first | apply f_q | apply f_r | apply f_n | apply g_r | apply g_n); rotate_left 1; exact a9_; exact ev_) | ((with_reducible first | apply d_p | apply d_n); rotate_left 1; exact ev_; rfl; exact a3_; exact a4_) | ((with_reducible apply d_cs); rotate_left 1; rfl; exact ev_; exact fv_; rfl; exact a5_; exact a4_) | ((with_reducible apply d_cv); rotate_left 1; rfl; exact ev_; exact fv_; exact a1_; exact a2_; exact tk_; exact a6_; exact a4_) | ((with_reducible apply d_gt); rotate_left 1; exact ev_) | ((with_reducible apply d_gf); rotate_left 1; exact a0_) | ((with_reducible apply d_gu); rotate_left 1; exact ev_) | (with_reducible first | apply d_zn | apply d_zb) | ((with_reducible first | apply d_g1 | apply d_g0); rotate_left 2; exact ev_) | exact pr_ | fail)
      all_goals
        have hu : wdC c = u := huh
        rw [← hu]
        simp only [wdC, *, Bool.true_and, Bool.false_and, Bool.and_true, Bool.and_false, Bool.or_true, Bool.or_false, Bool.true_or, Bool.false_or]
    · have c1 : decide ((s.size : Int) ≤ (m : Int)) = true := by simp; omega
      have hw : wdAt s m = false := by
        unfold wdAt
        simp only [show decide ((m : Int) < (s.size : Int)) = false by simp; omega, Bool.and_false, Bool.false_and]
      rw [hw]
      exact gD
      all_goals rfl
  · have c0 : decide (i < 0) = true := by simp; omega
    have hw : wdAt s i = false := by
      unfold wdAt
      simp only [show decide (0 ≤ i) = false by simp; omega, Bool.false_and]
    rw [hw]
    exact gD
    all_goals rfl
theorem f53 (k : Int) (s : ByteArray) (i : Nat) (hi : i ≤ s.size) (hs : s.size < 1000000000) : callP (Lv xp md) 53 [.int .i64 k, .str s, .int .i64 i] = some [.bool (stands k s i)] := by
  refine fn_v (F := F53) rfl ?_
  have w1 : IntKind.i64.wrap ((i : Int) - 1) = (i : Int) - 1 := wrapN (by omega) (by omega)
  have s61 := f61 s i (by omega) (by omega) (by omega)
  have s61' := f61 s ((i : Int) - 1) (by omega) (by omega) (by omega)
  have hu : stands k s i = if k = 5 then decide (i = 0) || decide (byt s (i - 1) = 10) else if k = 6 then decide (i = s.size) || decide (byt s i = 10) else !decide (wdAt s ((i : Int) - 1) = wdAt s i) := rfl
  by_cases h5 : k = 5
  · rw [hu, if_pos h5]
    subst h5
    cases i with
    | zero =>
      show Rn _ _ _ _ (FinQ F53 [.bool true])
      have c0 : decide (((0 : Nat) : Int) = 0) = true := rfl
      clear hu s61 s61'
      exact gD
    | succ m =>
      have c0 : decide (((m + 1 : Nat) : Int) = 0) = false := by simp; omega
      have e1 : ((m + 1 : Nat) : Int) - 1 = (m : Int) := by omega
      have hx := ixD_at (s := s) (j := m) (by omega)
      rw [e1] at w1
      have q : decide (m + 1 = 0) = false := by simp
      rw [q, Bool.false_or, Nat.add_sub_cancel]
      clear hu s61 s61' q
      exact gD
      all_goals rfl
  · by_cases h6 : k = 6
    · rw [hu, if_neg h5, if_pos h6]
      subst h6
      rcases Nat.lt_or_ge i s.size with hlt | hge
      · have c0 : decide ((i : Int) = (s.size : Int)) = false := by simp; omega
        have hx := ixD_at hlt
        have q : decide (i = s.size) = false := by simp; omega
        rw [q, Bool.false_or]
        clear hu s61 s61' q
        exact gD
        all_goals rfl
      · have c0 : decide ((i : Int) = (s.size : Int)) = true := by simp; omega
        have q : decide (i = s.size) = true := by simp; omega
        rw [q, Bool.true_or]
        clear hu s61 s61' q
        exact gD
        all_goals rfl
    · rw [hu, if_neg h5, if_neg h6]
      have c5 : decide (k = 5) = false := by simpa using h5
      have c6 : decide (k = 6) = false := by simpa using h6
      clear hu
      generalize wdAt s ((i : Int) - 1) = x at *
      generalize wdAt s i = y at *
      exact gD
theorem own_lim {x : Nat} (h : x ≤ 100000) : x + 1 ≤ 68719476736 := by omega
theorem f30 (s : ByteArray) (hs : s.size ≤ 1000) : callP (Lv xp md) 30 [.str s] = some [.own 4 1 (bl (non (s.size + 1)))] := by
  refine fn_v (F := F30) rfl ?_
  rw [← rdX_ne (bl_ne (A := non (s.size + 1)) (by simp [non]))]
  refine gK ?_
  refine rn_loop (s.size + 1) (fun j st => st.e 0 = .str s ∧ st.e 4 = .int .i64 j ∧ OutX st.h 24 st.k 4 1 (bl (non j)) (st.e 3) ∧ 24 ≤ st.k) (j := 0) ⟨?_, ?_, .inl ⟨rfl, by simp only [go_sem, ↓reduceIte, Nat.reduceEqDiff, Nat.reduceAdd, Nat.reduceMul, Nat.reduceSub, Nat.reduceLT, Nat.reduceLeDiff, Int.reduceEq, Int.reduceLT, Int.reduceLE, Int.reduceNeg, Int.reduceAdd, Int.reduceSub, reduceCtorEq]⟩, ?_⟩ (Nat.zero_le _) ?_
  all_goals first | exact eA | exact eB | exact eO | exact eC | exact eD | skip
  rintro j ⟨e, h, k⟩ hj ⟨i0, i4, hv, ik⟩
  dsimp only at i0 i4 hv ik
  have n1 : ∀ c, c < 24 → (c = k) = False := fun c hc => by simp; omega
  have n2 : ∀ c, c < 24 → (k = c) = False := fun c hc => by simp; omega
  rcases Nat.lt_or_ge j (s.size + 1) with hlt | hge
  · have c1 : decide ((j : Int) ≤ (s.size : Int)) = true := by simp; omega
    have w1 := inc64 j (by omega)
    have u1 := bl_all (non j)
    have u2 := own_lim (x := (non j).length) (by rw [non_len]; omega)
    have u3 : bl (non j) ++ [[D.bool false]] = bl (non (j + 1)) := by rw [bl_app]; congr 1; unfold non; rw [List.replicate_succ']
    rcases hv with ⟨hO, e3⟩ | ⟨o, e3, o1, o2, ho, hne⟩
    · have hj0 : j = 0 := by
        cases j with
        | zero => rfl
        | succ j => simp [bl, non] at hO
      subst hj0
      refine gK ?_
      refine ⟨by omega, ?_, ?_, ?_, ?_⟩
      all_goals first | exact eC | exact eO | exact eD | skip
      exact .inr ⟨k + 48, by simp only [go_sem, ↓reduceIte, Nat.reduceEqDiff, Nat.reduceAdd, Nat.reduceMul, Nat.reduceSub, Nat.reduceLT, Nat.reduceLeDiff, Int.reduceEq, Int.reduceLT, Int.reduceLE, Int.reduceNeg, Int.reduceAdd, Int.reduceSub, reduceCtorEq], by omega, by simp only; omega, by simp only [go_sem, ↓reduceIte, Nat.reduceEqDiff, Nat.reduceAdd, Nat.reduceMul, Nat.reduceSub, Nat.reduceLT, Nat.reduceLeDiff, Int.reduceEq, Int.reduceLT, Int.reduceLE, Int.reduceNeg, Int.reduceAdd, Int.reduceSub, reduceCtorEq]; rfl, by simp [bl, non]⟩
    · skip
      have m1o : ∀ c, c < 24 → (c = o) = False := fun c hc => by simp; omega
      have m2o : ∀ c, c < 24 → (o = c) = False := fun c hc => by simp; omega
      have m3o : ∀ c, (o = k + c) = False := fun c => by simp; omega
      have m4o : ∀ c, (k + c = o) = False := fun c => by simp; omega
      have m5o : (o = k) = False := by simp; omega
      have m6o : (k = o) = False := by simp; omega
      refine gK ?_
      refine ⟨by omega, ?_, ?_, ?_, ?_⟩
      all_goals first | exact eC | exact eO | exact eD | skip
      exact .inr ⟨k + 48, by simp only [go_sem, ↓reduceIte, Nat.reduceEqDiff, Nat.reduceAdd, Nat.reduceMul, Nat.reduceSub, Nat.reduceLT, Nat.reduceLeDiff, Int.reduceEq, Int.reduceLT, Int.reduceLE, Int.reduceNeg, Int.reduceAdd, Int.reduceSub, reduceCtorEq], by omega, by simp only; omega, by simp only [go_sem, ↓reduceIte, Nat.reduceEqDiff, Nat.reduceAdd, Nat.reduceMul, Nat.reduceSub, Nat.reduceLT, Nat.reduceLeDiff, Int.reduceEq, Int.reduceLT, Int.reduceLE, Int.reduceNeg, Int.reduceAdd, Int.reduceSub, reduceCtorEq, u3], by simp [bl, non]⟩
  · obtain rfl : j = s.size + 1 := by omega
    have c1 : decide (((s.size + 1 : Nat) : Int) ≤ (s.size : Int)) = false := by simp; omega
    have hret := hv.ret
    exact gD
theorem f50 (A B : List Bool) (hl : A.length ≤ 1000) (h0 : A ≠ []) (hab : B.length = A.length) : callP (Lv xp md) 50 [.isl (bl A), .isl (bl B)] = some [.own 4 1 (bl (orB A B))] := by
  refine fn_v (F := F50) rfl ?_
  have hC := orB_len (A := A) (B := B) hab.symm
  have hCn : orB A B ≠ [] := by
    intro h
    rw [h] at hC
    exact h0 (List.eq_nil_of_length_eq_zero hC.symm)
  have hat : ∀ j a b, A[j]? = some a → B[j]? = some b → (orB A B)[j]? = some (a || b) := fun j a b => orB_at
  rw [← rdX_ne (bl_ne hCn)]
  generalize hCe : orB A B = C at *
  clear hCe hCn
  have hCl : C.length ≤ A.length ∧ A.length ≤ C.length := by omega
  clear hC
  refine gK ?_
  refine rn_loop (A.length) (fun j st => st.e 0 = .isl (bl A) ∧ st.e 1 = .isl (bl B) ∧ st.e 6 = .int .i64 j ∧ OutX st.h 24 st.k 4 1 (bl (C.take j)) (st.e 5) ∧ 24 ≤ st.k) (j := 0) ⟨?_, ?_, ?_, .inl ⟨by simp [bl], by simp only [go_sem, ↓reduceIte, Nat.reduceEqDiff, Nat.reduceAdd, Nat.reduceMul, Nat.reduceSub, Nat.reduceLT, Nat.reduceLeDiff, Int.reduceEq, Int.reduceLT, Int.reduceLE, Int.reduceNeg, Int.reduceAdd, Int.reduceSub, reduceCtorEq]⟩, ?_⟩ (Nat.zero_le _) ?_
  all_goals first | exact eA | exact eB | exact eO | exact eC | exact eD | skip
  rintro j ⟨e, h, k⟩ hj ⟨i0, i1, i6, hv, ik⟩
  dsimp only at i0 i1 i6 hv ik
  have n1 : ∀ c, c < 24 → (c = k) = False := fun c hc => by simp; omega
  have n2 : ∀ c, c < 24 → (k = c) = False := fun c hc => by simp; omega
  rcases nextC hj with ⟨hlt, c1⟩ | ⟨rfl, c1⟩
  · obtain ⟨x, hx⟩ := at_lt hlt
    obtain ⟨y, hy⟩ := at_lt (show j < B.length by omega)
    have w1 := inc64 j (by omega)
    have hc := hat j x y hx hy
    have u1 := bl_all (C.take j)
    have u2 := own_lim (x := (C.take j).length) (by simp; omega)
    have u3 : bl (C.take j) ++ [[D.bool (x || y)]] = bl (C.take (j + 1)) := by rw [bl_app, List.take_add_one, hc]; rfl
    have u4 : bl (C.take (j + 1)) ≠ [] := bl_ne (by intro h; have := List.length_take (i := j + 1) (l := C); rw [h] at this; simp only [List.length_nil] at this; omega)
    clear hat hc
    generalize C.take j = O at *
    generalize C.take (j + 1) = O' at *
    cases x <;> simp only [Bool.false_or, Bool.true_or] at u3
    all_goals
      have u3h : Hid (bl O ++ [[D.bool _]] = bl O') := u3
      clear u3
      rcases hv with ⟨hO, e5⟩ | ⟨o, e5, o1, o2, ho, hne⟩
    all_goals first
      | (have m1 : ∀ c, c < 24 → (c = o) = False := fun c hc => by simp; omega
         have m2 : ∀ c, c < 24 → (o = c) = False := fun c hc => by simp; omega
         have m3 : ∀ c, (o = k + c) = False := fun c => by simp; omega
         have m4 : ∀ c, (k + c = o) = False := fun c => by simp; omega
         refine gK ?_)
      | (rw [hO] at u3h
         refine gK ?_)
    all_goals
      refine ⟨by omega, ?_, ?_, ?_, ?_, ?_⟩
      all_goals first | exact eC | exact eO | exact eD | skip
      exact .inr ⟨k + 128, by simp only [go_sem, ↓reduceIte, Nat.reduceEqDiff, Nat.reduceAdd, Nat.reduceMul, Nat.reduceSub, Nat.reduceLT, Nat.reduceLeDiff, Int.reduceEq, Int.reduceLT, Int.reduceLE, Int.reduceNeg, Int.reduceAdd, Int.reduceSub, reduceCtorEq], by omega, by simp only; omega, by (simp only [go_sem, ↓reduceIte, Nat.reduceEqDiff, Nat.reduceAdd, Nat.reduceMul, Nat.reduceSub, Nat.reduceLT, Nat.reduceLeDiff, Int.reduceEq, Int.reduceLT, Int.reduceLE, Int.reduceNeg, Int.reduceAdd, Int.reduceSub, reduceCtorEq]; rw [← show _ = bl O' from u3h]; try rfl), u4⟩
  · have hta : C.take A.length = C := List.take_of_length_le hCl.1
    rw [hta] at hv
    have hret := hv.ret
    exact gD
theorem f34 (A B : List Bool) (hl : A.length ≤ 1000) (h0 : A ≠ []) (hab : B.length = A.length) : callP (Lv xp md) 34 [.isl (bl A), .isl (bl B)] = some [.own 4 1 (bl (newB A B)), .bool (some_ (newB A B))] := by
  refine fn_v (F := F34) rfl ?_
  have hC := newB_len (A := A) (B := B) hab.symm
  have hCn : newB A B ≠ [] := by
    intro h
    rw [h] at hC
    exact h0 (List.eq_nil_of_length_eq_zero hC.symm)
  have hat : ∀ j a b, A[j]? = some a → B[j]? = some b → (newB A B)[j]? = some (a && !b) := fun j a b => newB_at
  rw [← rdX_ne (bl_ne hCn)]
  generalize hCe : newB A B = C at *
  clear hCe hCn
  have hCl : C.length ≤ A.length ∧ A.length ≤ C.length := by omega
  clear hC
  refine gK ?_
  refine rn_loop (A.length) (fun j st => st.e 0 = .isl (bl A) ∧ st.e 1 = .isl (bl B) ∧ st.e 7 = .bool (some_ (C.take j)) ∧ st.e 8 = .int .i64 j ∧ OutX st.h 32 st.k 4 1 (bl (C.take j)) (st.e 6) ∧ 32 ≤ st.k) (j := 0) ⟨?_, ?_, ?_, ?_, .inl ⟨by simp [bl], by simp only [go_sem, ↓reduceIte, Nat.reduceEqDiff, Nat.reduceAdd, Nat.reduceMul, Nat.reduceSub, Nat.reduceLT, Nat.reduceLeDiff, Int.reduceEq, Int.reduceLT, Int.reduceLE, Int.reduceNeg, Int.reduceAdd, Int.reduceSub, reduceCtorEq]⟩, ?_⟩ (Nat.zero_le _) ?_
  all_goals first | exact eA | exact eB | exact eO | exact eC | exact eD | skip
  rintro j ⟨e, h, k⟩ hj ⟨i0, i1, i7, i8, hv, ik⟩
  dsimp only at i0 i1 i7 i8 hv ik
  have n1 : ∀ c, c < 32 → (c = k) = False := fun c hc => by simp; omega
  have n2 : ∀ c, c < 32 → (k = c) = False := fun c hc => by simp; omega
  rcases nextC hj with ⟨hlt, c1⟩ | ⟨rfl, c1⟩
  · obtain ⟨x, hx⟩ := at_lt hlt
    obtain ⟨y, hy⟩ := at_lt (show j < B.length by omega)
    have w1 := inc64 j (by omega)
    have hc := hat j x y hx hy
    have u1 := bl_all (C.take j)
    have u2 := own_lim (x := (C.take j).length) (by simp; omega)
    have u3 : bl (C.take j) ++ [[D.bool (x && !y)]] = bl (C.take (j + 1)) := by rw [bl_app, List.take_add_one, hc]; rfl
    have u4 : bl (C.take (j + 1)) ≠ [] := bl_ne (by intro h; have := List.length_take (i := j + 1) (l := C); rw [h] at this; simp only [List.length_nil] at this; omega)
    have u5 : some_ (C.take (j + 1)) = (some_ (C.take j) || (x && !y)) := by
      unfold some_
      rw [List.take_add_one, hc]
      simp [List.any_append]
    clear hat hc
    generalize C.take j = O at *
    generalize C.take (j + 1) = O' at *
    generalize some_ O = so at *
    generalize some_ O' = so' at *
    have u3h : Hid (bl O ++ [[D.bool (x && !y)]] = bl O') := u3
    have u5h : Hid (so' = (so || (x && !y))) := u5
    clear u3 u5
    have key : ∀ v : D, v = .bool so' → v = .bool (so || (x && !y)) := fun v hv => by rw [hv]; congr 1
    clear key
    cases x <;> cases y <;> cases so
    all_goals
      have u5 : so' = _ := u5h
      simp only [Bool.false_or, Bool.true_or, Bool.true_and, Bool.false_and, Bool.not_false, Bool.not_true, Bool.and_self, Bool.or_false] at u5
      subst u5
      clear u5h
      rcases hv with ⟨hO, e5⟩ | ⟨o, e5, o1, o2, ho, hne⟩
    all_goals first
      | (have m1 : ∀ c, c < 32 → (c = o) = False := fun c hc => by simp; omega
         have m2 : ∀ c, c < 32 → (o = c) = False := fun c hc => by simp; omega
         have m3 : ∀ c, (o = k + c) = False := fun c => by simp; omega
         have m4 : ∀ c, (k + c = o) = False := fun c => by simp; omega
         refine gK ?_)
      | (rw [hO] at u3h
         refine gK ?_)
    all_goals
      refine ⟨by omega, ?_, ?_, ?_, ?_, ?_, ?_⟩
      all_goals first | exact eC | exact eO | exact eD | skip
      exact .inr ⟨k + 136, by simp only [go_sem, ↓reduceIte, Nat.reduceEqDiff, Nat.reduceAdd, Nat.reduceMul, Nat.reduceSub, Nat.reduceLT, Nat.reduceLeDiff, Int.reduceEq, Int.reduceLT, Int.reduceLE, Int.reduceNeg, Int.reduceAdd, Int.reduceSub, reduceCtorEq], by omega, by simp only; omega, by (simp only [go_sem, ↓reduceIte, Nat.reduceEqDiff, Nat.reduceAdd, Nat.reduceMul, Nat.reduceSub, Nat.reduceLT, Nat.reduceLeDiff, Int.reduceEq, Int.reduceLT, Int.reduceLE, Int.reduceNeg, Int.reduceAdd, Int.reduceSub, reduceCtorEq]; rw [← show _ = bl O' from u3h]; try rfl), u4⟩
  · have hta : C.take A.length = C := List.take_of_length_le hCl.1
    rw [hta] at hv i7
    have hret := hv.ret2 (q := some_ C)
    exact gD
end Go.Proofs.Ytpdamhhaepcffaa.AE
/-
  regexec: ranges.
-/
set_option linter.unusedVariables false
set_option linter.unusedSimpArgs false
set_option maxHeartbeats 4000000
set_option maxRecDepth 100000
namespace Go.Proofs.Ytpdamhhaepcffaa.AE
open Go
def rl (l : List (Int × Int)) : List (List D) := l.map fun r => [.int .u8 r.1, .int .u8 r.2]
theorem rl_at (l : List (Int × Int)) (j : Nat) : (rl l)[j]? = l[j]?.map fun r => [.int .u8 r.1, .int .u8 r.2] := by simp [rl]
theorem rl_len (l : List (Int × Int)) : (rl l).length = l.length := by simp [rl]
/-- The same, nil where z says so and it is empty. -/
def rz (z : Bool) (l : List (Int × Int)) : D := if z && l.isEmpty then .nls else .isl (rl l)
theorem rz_cases (z : Bool) (l : List (Int × Int)) : rz z l = .isl (rl l) ∨ (rz z l = .nls ∧ l = []) := by
  cases z with
  | false => exact .inl rfl
  | true => cases l with
    | nil => exact .inr ⟨rfl, rfl⟩
    | cons => exact .inl rfl
theorem rz_elems (h : Hp) (z : Bool) (l : List (Int × Int)) : elems h (rz z l) = some (rl l) := by
  rcases rz_cases z l with e | ⟨e, rfl⟩ <;> rw [e] <;> rfl
theorem rz_frz (n : Nat) (h : Hp) (z : Bool) (l : List (Int × Int)) : frz (n + 1) h (rz z l) = some (rz z l, h) := by
  rcases rz_cases z l with e | ⟨e, rfl⟩ <;> rw [e] <;> rfl
theorem rz_cells (z : Bool) (l : List (Int × Int)) : D.cells (rz z l) = some [rz z l] := by
  rcases rz_cases z l with e | ⟨e, rfl⟩ <;> rw [e] <;> rfl
theorem rz_leaf (z : Bool) (l : List (Int × Int)) : D.leaf (rz z l) = true := by
  rcases rz_cases z l with e | ⟨e, rfl⟩ <;> rw [e] <;> rfl
theorem rz_im (z : Bool) (l : List (Int × Int)) : D.im (rz z l) = true := by
  rcases rz_cases z l with e | ⟨e, rfl⟩ <;> rw [e] <;> rfl
theorem rz_nm (z : Bool) (l : List (Int × Int)) : D.nm (rz z l) = [] := by
  rcases rz_cases z l with e | ⟨e, rfl⟩ <;> rw [e] <;> rfl
theorem rz_ia (h : Hp) (z : Bool) (l : List (Int × Int)) (j : Nat) : iaD h 2 j (rz z l) = (l[j]?).bind fun r => some (.ipt [.int .u8 r.1, .int .u8 r.2] 0, h) := by
  rcases rz_cases z l with e | ⟨e, rfl⟩
  · rw [e]; simp only [iaD, rl_at]; cases l[j]? <;> rfl
  · rw [e]; rfl
attribute [go_sem] rl_at rl_len rz_elems rz_frz rz_cells rz_leaf rz_im rz_nm rz_ia
def inR (c : Int) (r : Int × Int) : Bool := decide (r.1 ≤ c) && decide (c ≤ r.2)
theorem inSet_any (l : List (Int × Int)) (c : Int) : inSet l c = l.any (inR c) := rfl
theorem f63 (r : Int × Int) (c : Int) : callP (Lv xp md) 63 [.agg [.int .u8 r.1, .int .u8 r.2], .ipt [.int .u8 c] 0] = some [.bool (inR c r)] := by
  refine fn_v (F := F63) rfl ?_
  unfold inR
  repeat' (first | intro _ | ((with_reducible first | apply s_p | apply s_n); rotate_left 1; exact ev_; rfl) | (with_reducible first | apply s_zn | apply s_zb | apply rn_seq | apply rn_blk | apply w_sn | apply w_sb | apply x_b0 | apply x_nx | apply r_nx | apply r_bk | apply n_nx | apply n_bk | apply q_nx | apply q_bk) | ((with_reducible apply s_gt); rotate_left 1; exact ev_) | ((with_reducible apply s_gf); rotate_left 1; exact a0_) | ((with_reducible apply s_gu); rotate_left 1; exact ev_) | ((with_reducible apply s_cs); rotate_left 1; rfl; exact ev_; exact fv_; rfl) | ((with_reducible apply s_cv); rotate_left 1; rfl; exact ev_; exact fv_; exact a1_; exact a2_; exact tk_) | ((with_reducible apply s_vs); rotate_left 1; exact ev_; rfl; exact ev_; exact fv_; rfl) | ((with_reducible first | apply s_g1 | apply s_g0); rotate_left 2; exact ev_) | ((with_reducible first | apply w_r | apply w_d); rotate_left 1; exact a7_; exact a8_) | ((with_reducible apply w_t); rotate_left 1; exact ev_) | ((with_reducible apply w_f); rotate_left 1; exact ev_) | ((with_reducible apply w_i); rotate_left 2; exact ev_) | ((with_reducible apply x_b1); rotate_left 1; (decide)) | ((with_reducible first | apply f_q | apply f_r | apply f_n | apply g_r | apply g_n); rotate_left 1; exact a9_; exact ev_) | ((with_reducible first | apply d_p | apply d_n); rotate_left 1; exact ev_; rfl; exact a3_; exact a4_) | ((with_reducible apply d_cs); rotate_left 1; rfl; exact ev_; exact fv_; rfl; exact a5_; exact a4_) | ((with_reducible apply d_cv); rotate_left 1; rfl; exact ev_; exact fv_; exact a1_; exact a2_; exact tk_; exact a6_; exact a4_) | ((with_reducible apply d_gt); rotate_left 1; exact ev_) | ((with_reducible apply d_gf); rotate_left 1; exact a0_) | ((with_reducible apply d_gu); rotate_left 1; exact ev_) | (with_reducible first | apply d_zn | apply d_zb) | ((with_reducible first | apply d_g1 | apply d_g0); rotate_left 2; exact ev_) | exact pr_ | fail)
  all_goals simp only [*, Bool.true_and, Bool.false_and]
def idxR (l : List (Int × Int)) (p : Int × Int → Bool) : Int := match l.findIdx? p with
  | some i => (i : Int)
  | none => -1
theorem idxR_at {l : List (Int × Int)} {p : Int × Int → Bool} {j : Nat} {t : Int × Int} (hj : l[j]? = some t) (hp : p t = true) (hb : ∀ i x, i < j → l[i]? = some x → p x = false) : idxR l p = (j : Int) := by
  obtain ⟨hlt, he⟩ := List.getElem?_eq_some_iff.1 hj
  have : (l.findIdx? p) = some j := by
    rw [List.findIdx?_eq_some_iff_getElem]
    exact ⟨hlt, by rw [he]; exact hp, fun i hi => by rw [hb i _ hi (List.getElem?_eq_getElem (by omega))]; simp⟩
  simp only [idxR, this]
theorem idxR_no {l : List (Int × Int)} {p : Int × Int → Bool} (hb : ∀ i x, i < l.length → l[i]? = some x → p x = false) : idxR l p = -1 := by
  have : (l.findIdx? p) = none := by
    rw [List.findIdx?_eq_none_iff]
    intro x hx
    obtain ⟨i, hi⟩ := List.getElem?_of_mem hx
    exact hb i x (List.getElem?_eq_some_iff.1 hi).1 hi
  simp only [idxR, this]
theorem idxR_any (l : List (Int × Int)) (p : Int × Int → Bool) : decide (0 ≤ idxR l p) = l.any p := by
  unfold idxR
  cases h : l.findIdx? p with
  | none =>
    rw [List.findIdx?_eq_none_iff] at h
    simp only [show decide (0 ≤ (-1 : Int)) = false from rfl]
    exact (List.any_eq_false.2 fun x hx => by rw [h x hx]; simp).symm
  | some i =>
    rw [List.findIdx?_eq_some_iff_getElem] at h
    obtain ⟨hi, hp, _⟩ := h
    simp only [show decide (0 ≤ (i : Int)) = true by simp]
    exact (List.any_eq_true.2 ⟨_, List.getElem_mem hi, hp⟩).symm
theorem f64 (z : Bool) (l : List (Int × Int)) (c : Int) (hl : l.length < 100000000000000) : callP (Lv xp md) 64 [rz z l, .fn 63 [.ipt [.int .u8 c] 0]] = some [.int .i64 (idxR l (inR c))] := by
  refine fn_v (F := F64) rfl ?_
  refine gK ?_
  refine rn_loop (l.length) (fun j st => st.e 0 = rz z l ∧ st.e 1 = .fn 63 [.ipt [.int .u8 c] 0] ∧ st.e 7 = .int .i64 l.length ∧ st.e 8 = .int .i64 j ∧ (∀ i x, i < j → l[i]? = some x → inR c x = false)) (j := 0) ⟨?_, ?_, ?_, ?_, fun i x hi => by omega⟩ (Nat.zero_le _) ?_
  all_goals first | exact eA | exact eB | exact eO | exact eC | exact eD | skip
  rintro j ⟨e, h, k⟩ hj ⟨i0, i1, i7, i8, iv⟩
  dsimp only at i0 i1 i7 i8
  rcases nextC hj with ⟨hlt, c1⟩ | ⟨rfl, c1⟩
  · obtain ⟨x, hx⟩ := at_lt hlt
    have w1 := inc64 j (by omega)
    have s63 := f63 x c
    cases hp : inR c x with
    | true =>
      rw [hp] at s63
      rw [idxR_at hx hp iv]
      clear iv
      exact gD
    | false =>
      rw [hp] at s63
      have iv2 := before_succ (p := fun x => inR c x = false) hx hp iv
      clear iv
      refine gK ?_
      refine ⟨by omega, ?_, ?_, ?_, ?_, iv2⟩
      all_goals first | exact eC | exact eO | exact eD | skip
  · rw [idxR_no iv]
    exact gD
theorem f62 (z : Bool) (l : List (Int × Int)) (c : Int) (hl : l.length < 100000000000000) : callP (Lv xp md) 62 [rz z l, .fn 63 [.ipt [.int .u8 c] 0]] = some [.bool (inSet l c)] := by
  refine fn_v (F := F62) rfl ?_
  have s64 := f64 z l c hl
  rw [inSet_any, ← idxR_any]
  exact gD
theorem f55 (z : Bool) (l : List (Int × Int)) (c : Int) (hl : l.length < 100000000000000) : callP (Lv xp md) 55 [rz z l, .int .u8 c] = some [.bool (inSet l c)] := by
  refine fn_v (F := F55) rfl ?_
  have s62 := f62 z l c hl
  exact gD
theorem f52 (z : Bool) (l : List (Int × Int)) (c : Int) (hl : l.length < 100000000000000) : callP (Lv xp md) 52 [rz z l, .int .u8 c] = some [.bool (inSet l c)] := by
  refine fn_v (F := F52) rfl ?_
  refine gK ?_
  refine rn_loop (l.length) (fun j st => st.e 0 = rz z l ∧ st.e 1 = .int .u8 c ∧ st.e 5 = .int .i64 j ∧ (∀ i x, i < j → l[i]? = some x → inR c x = false)) (j := 0) ⟨?_, ?_, ?_, fun i x hi => by omega⟩ (Nat.zero_le _) ?_
  all_goals first | exact eA | exact eB | exact eO | exact eC | exact eD | skip
  rintro j ⟨e, h, k⟩ hj ⟨i0, i1, i5, iv⟩
  dsimp only at i0 i1 i5
  rw [inSet_any]
  rcases nextC hj with ⟨hlt, c1⟩ | ⟨rfl, c1⟩
  · obtain ⟨x, hx⟩ := at_lt hlt
    have w1 := inc64 j (by omega)
    have hp : inR c x = (decide (x.1 ≤ c) && decide (c ≤ x.2)) := rfl
    have yes : Hid (inR c x = true → l.any (inR c) = true) := any_yes (p := inR c) hx
    have no : Hid (inR c x = false → ∀ i x, i < j + 1 → l[i]? = some x → inR c x = false) := fun h => before_succ (p := fun x => inR c x = false) hx h iv
    clear iv
    cases q1 : decide (x.1 ≤ c) <;> cases q2 : decide (c ≤ x.2) <;> rw [q1, q2] at hp <;> simp only [Bool.and_true, Bool.and_false, Bool.and_self] at hp
    · have iv2 := (show _ → _ from no) hp
      clear yes no hp
      refine gK ?_
      refine ⟨by omega, ?_, ?_, ?_, iv2⟩
      all_goals first | exact eC | exact eO | exact eD | skip
    · have iv2 := (show _ → _ from no) hp
      clear yes no hp
      refine gK ?_
      refine ⟨by omega, ?_, ?_, ?_, iv2⟩
      all_goals first | exact eC | exact eO | exact eD | skip
    · have iv2 := (show _ → _ from no) hp
      clear yes no hp
      refine gK ?_
      refine ⟨by omega, ?_, ?_, ?_, iv2⟩
      all_goals first | exact eC | exact eO | exact eD | skip
    · rw [(show _ → _ from yes) hp]
      clear yes no hp
      exact gD
  · rw [any_no iv]
    exact gD
end Go.Proofs.Ytpdamhhaepcffaa.AE
/-
  regexec: the steps of a byte and of what has no length.
-/
set_option linter.unusedVariables false
set_option linter.unusedSimpArgs false
set_option maxHeartbeats 4000000
set_option maxRecDepth 100000
namespace Go.Proofs.Ytpdamhhaepcffaa.AE
open Go
/-- A result that is a set. -/
def IsSet (r : D) (A : List Bool) : Prop := r = .isl (bl A) ∨ r = .own 4 1 (bl A)
/-- A function value that makes of a set of offsets below n those that R leads to. -/
structure StepOk (n f : Nat) (caps : List D) (R : Rl) : Prop where
  im : caps.all D.im = true
  c : ∀ A : List Bool, A.length = n → ∃ r, callP (Lv xp md) f (.isl (bl A) :: caps) = some [r] ∧ IsSet r (img n R A)
theorem img_at {n : Nat} {R : Rl} {A : List Bool} {j : Nat} {b : Bool} (hj : j < n) (hb : b = true ↔ ∃ i, On A i ∧ R i j) : (img n R A)[j]? = some b := by
  have h1 : On (img n R A) j ↔ b = true := by rw [on_img, hb]; simp [hj]
  have h2 : j < (img n R A).length := by rw [img_len]; exact hj
  rw [List.getElem?_eq_getElem h2]
  congr 1
  unfold On at h1
  rw [List.getElem?_eq_getElem h2] at h1
  cases h3 : (img n R A)[j] <;> cases b <;> rw [h3] at h1 <;> simp at h1 ⊢
theorem f46 (s : ByteArray) (i : Nat) (hi : i ≤ s.size) (hs : s.size < 1000000000) : callP (Lv xp md) 46 [.int .i64 i, .ipt [.str s] 0] = some [.bool (stands 5 s i)] := by
  refine fn_v (F := F46) rfl ?_
  have hu : stands 5 s i = (decide (i = 0) || decide (byt s (i - 1) = 10)) := rfl
  rw [hu]
  cases i with
  | zero =>
    show Rn _ _ _ _ (FinQ F46 [.bool true])
    have c0 : decide (((0 : Nat) : Int) = 0) = true := rfl
    clear hu
    exact gD
  | succ m =>
    have w1 : IntKind.i64.wrap (((m + 1 : Nat) : Int) - 1) = (m : Int) := by rw [wrapN (by omega) (by omega)]; omega
    have c0 : decide (((m + 1 : Nat) : Int) = 0) = false := by simp; omega
    have hx := ixD_at (s := s) (j := m) (by omega)
    have q : decide (m + 1 = 0) = false := by simp
    rw [q, Bool.false_or, Nat.add_sub_cancel]
    clear hu q
    exact gD
    all_goals rfl
theorem f47 (s : ByteArray) (i : Nat) (hi : i ≤ s.size) (hs : s.size < 1000000000) : callP (Lv xp md) 47 [.int .i64 i, .ipt [.str s] 0] = some [.bool (stands 6 s i)] := by
  refine fn_v (F := F47) rfl ?_
  have hu : stands 6 s i = (decide (i = s.size) || decide (byt s i = 10)) := rfl
  rw [hu]
  rcases Nat.lt_or_ge i s.size with hlt | hge
  · have c0 : decide ((i : Int) = (s.size : Int)) = false := by simp; omega
    have hx := ixD_at hlt
    have q : decide (i = s.size) = false := by simp; omega
    rw [q, Bool.false_or]
    clear hu q
    exact gD
    all_goals rfl
  · have c0 : decide ((i : Int) = (s.size : Int)) = true := by simp; omega
    have q : decide (i = s.size) = true := by simp; omega
    rw [q, Bool.true_or]
    clear hu q
    exact gD
    all_goals rfl
theorem f48 (s : ByteArray) (i : Nat) (hi : i ≤ s.size) (hs : s.size < 1000000000) : callP (Lv xp md) 48 [.int .i64 i, .ipt [.str s] 0] = some [.bool (!decide (wdAt s ((i : Int) - 1) = wdAt s i))] := by
  refine fn_v (F := F48) rfl ?_
  have w1 : IntKind.i64.wrap ((i : Int) - 1) = (i : Int) - 1 := wrapN (by omega) (by omega)
  have s1 := f49 s i (by omega) (by omega) (by omega)
  have s2 := f49 s ((i : Int) - 1) (by omega) (by omega) (by omega)
  generalize wdAt s ((i : Int) - 1) = x at *
  generalize wdAt s i = y at *
  exact gD
theorem f59 (s : ByteArray) (hs : s.size ≤ 500) (g : Nat) (p : Nat → Bool) (R : Rl) (hR : R = fun i j => j = i ∧ i ≤ s.size ∧ p i = true) (hg : ∀ i : Nat, i ≤ s.size → callP (Lv xp md) g [.int .i64 i, .ipt [.str s] 0] = some [.bool (p i)]) (A : List Bool) (hA : A.length = s.size + 1) :
    callP (Lv xp md) 59 [.isl (bl A), .ipt [.fn g [.ipt [.str s] 0]] 0] = some [.own 4 1 (bl (img (s.size + 1) R A))] := by
  refine fn_v (F := F59) rfl ?_
  have hat : ∀ (j : Nat) (x : Bool), A[j]? = some x → (img (s.size + 1) R A)[j]? = some (x && p j) := by
    intro j x hx
    have hj : j < s.size + 1 := by rw [← hA]; exact (List.getElem?_eq_some_iff.1 hx).1
    refine img_at hj ?_
    rw [hR]
    constructor
    · intro h
      simp only [Bool.and_eq_true] at h
      exact ⟨j, by rw [On, hx, h.1], rfl, by omega, h.2⟩
    · rintro ⟨i, h1, rfl, h2, h3⟩
      rw [On, hx] at h1
      rw [Option.some.inj h1, h3]; rfl
  have hC := img_len (s.size + 1) R A
  have h0 : A.length ≤ 68719476736 := by omega
  generalize img (s.size + 1) R A = C at *
  have hCl : C.length ≤ A.length ∧ A.length ≤ C.length := by omega
  have p0 : List.replicate A.length [D.bool false] = bl (pre C 0) := by rw [pre_zero, hC, hA, bl_rep]
  have hs1 : A.length ≤ s.size + 1 := by omega
  have pall : pre C A.length = C := by rw [hA, ← hC]; exact pre_all C
  clear hC hA
  refine gK ?_
  refine rn_loop (A.length) (fun j st => st.e 0 = .isl (bl A) ∧ st.e 1 = .ipt [.fn g [.ipt [.str s] 0]] 0 ∧ st.e 4 = .osl 24 ∧ st.e 10 = .int .i64 A.length ∧ st.e 11 = .int .i64 j ∧ st.h 24 = .row 4 1 (bl (pre C j)) true ∧ 64 ≤ st.k) (j := 0) ⟨?_, ?_, ?_, ?_, ?_, ?_, ?_⟩ (Nat.zero_le _) ?_
  all_goals first | exact eA | exact eB | exact eO | exact eC | exact eD | skip
  rintro j ⟨e, h, k⟩ hj ⟨i0, i1, i4, i10, i11, b24, ik⟩
  dsimp only at i0 i1 i4 i10 i11 b24 ik
  have n1 : ∀ c, c < 64 → (c = k) = False := fun c hc => by simp; omega
  have n2 : ∀ c, c < 64 → (k = c) = False := fun c hc => by simp; omega
  rcases nextC hj with ⟨hlt, c1⟩ | ⟨rfl, c1⟩
  · obtain ⟨x, hx⟩ := at_lt hlt
    have w1 := inc64 j (by omega)
    have hgj := hg j (by omega)
    have p1 := pre_at C (j := j) (by omega)
    have p2 := pre_set (hat j x hx)
    have p3 := bl_set (pre C j) j (x && p j)
    have p4 : j < (pre C j).length := by rw [pre_len C (by omega)]; omega
    rw [p2] at p3
    have hm : md g = false := rfl
    clear hat p2 p0 pall hg hR
    generalize p j = y at *
    cases x
    · rw [Bool.false_and] at p3
      refine gK ?_
      refine ⟨by omega, ?_, ?_, ?_, ?_, ?_, ?_, ?_⟩
      all_goals first | exact eC | exact eO | exact eD | skip
    · rw [Bool.true_and] at p3
      refine gK ?_
      refine ⟨by omega, ?_, ?_, ?_, ?_, ?_, ?_, ?_⟩
      all_goals first | exact eC | exact eO | exact eD | skip
  · rw [pall] at b24
    exact gD
theorem f45 (s : ByteArray) (g : Nat) : callP (Lv xp md) 45 [.fn g [.ipt [.str s] 0]] = some [.fn 59 [.ipt [.fn g [.ipt [.str s] 0]] 0]] := by
  refine fn_v (F := F45) rfl ?_
  exact gD
end Go.Proofs.Ytpdamhhaepcffaa.AE
/-
  regexec: the step of a byte.
-/
set_option linter.unusedVariables false
set_option linter.unusedSimpArgs false
set_option maxHeartbeats 4000000
set_option maxRecDepth 100000
namespace Go.Proofs.Ytpdamhhaepcffaa.AE
open Go
def cb (M : List Bool) : List D := M.map D.bool
theorem cb_at (M : List Bool) (j : Nat) : (cb M)[j]? = M[j]?.map D.bool := by simp [cb]
theorem cb_len (M : List Bool) : (cb M).length = M.length := by simp [cb]
theorem cb_sub {M : List Bool} {j : Nat} {b : Bool} (h : M[j]? = some b) : List.take 1 (List.drop j (cb M)) = [D.bool b] := by
  have hj := (List.getElem?_eq_some_iff.1 h).1
  unfold cb
  rw [← List.map_drop, List.drop_eq_getElem_cons hj, (List.getElem?_eq_some_iff.1 h).2]
  simp
theorem cb_spl {M : List Bool} {j : Nat} {b : Bool} (h : j < M.length) : List.take j (cb M) ++ [D.bool b] ++ List.drop (j + 1) (cb M) = cb (M.set j b) := by
  unfold cb
  rw [List.set_eq_take_append_cons_drop, if_pos h]
  simp [List.map_take, List.map_drop]
theorem cb_frz (n : Nat) (h : Hp) : ∀ M : List Bool, frzL (frz (n + 1)) h (cb M) = some (cb M, h)
  | [] => rfl
  | b :: M => by
    show ((frz (n + 1) h (.bool b)).bind fun p => (frzL (frz (n + 1)) p.2 (cb M)).bind fun q => some (p.1 :: q.1, q.2)) = _
    rw [frz_bool, Option.bind_some, cb_frz n h M]
    rfl
/-- The bytes of a set. -/
def bytesOf (set : List (Int × Int)) : List Bool := (List.range 256).map fun (c : Nat) => inSet set (c : Int)
theorem bytesOf_at (set : List (Int × Int)) {j : Nat} (h : j < 256) : (bytesOf set)[j]? = some (inSet set (j : Int)) := by
  unfold bytesOf
  rw [List.getElem?_map, List.getElem?_range h]
  rfl
theorem bytesOf_len (set : List (Int × Int)) : (bytesOf set).length = 256 := by simp [bytesOf]
theorem u8_wrap {j : Nat} (h : j < 256) : IntKind.u8.wrap (j : Int) = (j : Int) := by
  simp only [IntKind.wrap, show IntKind.u8.bits = 8 from rfl, show IntKind.u8.signed = false from rfl]
  simp
  omega
theorem f40 (z : Bool) (set : List (Int × Int)) (s : ByteArray) (hl : set.length < 100000000000000) : callP (Lv xp md) 40 [rz z set, .str s] = some [.fn 56 [.ipt [.str s] 0, .ipt (cb (bytesOf set)) 0]] := by
  refine fn_v (F := F40) rfl ?_
  have hM := bytesOf_len set
  have hat : ∀ j : Nat, j < 256 → (bytesOf set)[j]? = some (inSet set (j : Int)) := fun j h => bytesOf_at set h
  generalize bytesOf set = M at *
  have pall : pre M 256 = M := by rw [← hM]; exact pre_all M
  have p00 : (Ob.var (cb (pre M 0)) true) = Ob.var (List.replicate 256 (D.bool false)) true := by
    rw [pre_zero, hM]; rfl
  have hMl : 256 ≤ M.length ∧ M.length ≤ 256 := by omega
  clear hM
  refine gK ?_
  refine rn_loop 256 (fun j st => st.e 0 = rz z set ∧ st.e 3 = .ptr 0 0 0 ∧ st.e 5 = .ptr 16 0 0 ∧ st.e 7 = .int .i64 j ∧ st.h 0 = .var [.str s] true ∧ st.h 16 = .var (cb (pre M j)) true ∧ 32 ≤ st.k) (j := 0) ⟨by simp only [go_sem, ↓reduceIte, Nat.reduceEqDiff, Nat.reduceAdd, Nat.reduceMul, Nat.reduceSub, Nat.reduceLT, Nat.reduceLeDiff, Int.reduceEq, Int.reduceLT, Int.reduceLE, Int.reduceNeg, Int.reduceAdd, Int.reduceSub, reduceCtorEq], by simp only [go_sem, ↓reduceIte, Nat.reduceEqDiff, Nat.reduceAdd, Nat.reduceMul, Nat.reduceSub, Nat.reduceLT, Nat.reduceLeDiff, Int.reduceEq, Int.reduceLT, Int.reduceLE, Int.reduceNeg, Int.reduceAdd, Int.reduceSub, reduceCtorEq], by simp only [go_sem, ↓reduceIte, Nat.reduceEqDiff, Nat.reduceAdd, Nat.reduceMul, Nat.reduceSub, Nat.reduceLT, Nat.reduceLeDiff, Int.reduceEq, Int.reduceLT, Int.reduceLE, Int.reduceNeg, Int.reduceAdd, Int.reduceSub, reduceCtorEq], by simp only [go_sem, ↓reduceIte, Nat.reduceEqDiff, Nat.reduceAdd, Nat.reduceMul, Nat.reduceSub, Nat.reduceLT, Nat.reduceLeDiff, Int.reduceEq, Int.reduceLT, Int.reduceLE, Int.reduceNeg, Int.reduceAdd, Int.reduceSub, reduceCtorEq]; rfl, by simp only [go_sem, ↓reduceIte, Nat.reduceEqDiff, Nat.reduceAdd, Nat.reduceMul, Nat.reduceSub, Nat.reduceLT, Nat.reduceLeDiff, Int.reduceEq, Int.reduceLT, Int.reduceLE, Int.reduceNeg, Int.reduceAdd, Int.reduceSub, reduceCtorEq], ?_, by simp only; omega⟩ (Nat.zero_le _) ?_
  · rw [p00]
    simp only [hput_at]
    rfl
  clear p00
  rintro j ⟨e, h, k⟩ hj ⟨i0, i3, i5, i7, b0, b16, ik⟩
  dsimp only at i0 i3 i5 i7 b0 b16 ik
  have n1 : ∀ c, c < 32 → (c = k) = False := fun c hc => by simp; omega
  have n2 : ∀ c, c < 32 → (k = c) = False := fun c hc => by simp; omega
  rcases Nat.lt_or_ge j 256 with hlt | hge
  · have c1 : decide ((j : Int) < 256) = true := by simp; omega
    have c2 : (j : Int) < ((256 : Nat) : Int) := by omega
    have w1 := inc64 j (by omega)
    have w2 := u8_wrap hlt
    have w3 : ∀ n : Nat, n * 1 = n := Nat.mul_one
    have s55 := f55 z set (j : Int) hl
    have q1 : j + 1 ≤ (cb (pre M j)).length := by rw [cb_len, pre_len M (by omega)]; omega
    have q2 := cb_spl (M := pre M j) (j := j) (b := inSet set (j : Int)) (by rw [pre_len M (by omega)]; omega)
    rw [pre_set (hat j hlt)] at q2
    clear hat pall
    refine gK ?_
    refine ⟨hlt, ?_, ?_, ?_, ?_, ?_, ?_, ?_⟩
    all_goals first | (simp only [go_sem, ↓reduceIte, Nat.reduceEqDiff, Nat.reduceAdd, Nat.reduceMul, Nat.reduceSub, Nat.reduceLT, Nat.reduceLeDiff, Int.reduceEq, Int.reduceLT, Int.reduceLE, Int.reduceNeg, Int.reduceAdd, Int.reduceSub, reduceCtorEq, *]; done) | (simp only; omega)
  · obtain rfl : j = 256 := by omega
    have c1 : decide (((256 : Nat) : Int) < 256) = false := rfl
    rw [pall] at b16
    have hf : ∀ n h, frzL (frz (n + 1)) h (cb M) = some (cb M, h) := fun n h => cb_frz n h M
    clear hat pall
    exact gD
theorem f56 (s : ByteArray) (hs : s.size ≤ 500) (set : List (Int × Int)) (A : List Bool) (hA : A.length = s.size + 1) : callP (Lv xp md) 56 [.isl (bl A), .ipt [.str s] 0, .ipt (cb (bytesOf set)) 0] = some [.own 4 1 (bl (img (s.size + 1) (setR set s) A))] := by
  refine fn_v (F := F56) rfl ?_
  have hz : (img (s.size + 1) (setR set s) A)[0]? = some false := by
    refine img_at (by omega) ?_
    constructor
    · intro h; cases h
    · rintro ⟨i, _, _, h, _⟩; omega
  have hat : ∀ (j : Nat) (x : Bool), j < s.size → A[j]? = some x → (img (s.size + 1) (setR set s) A)[j + 1]? = some (x && inSet set (byt s j)) := by
    intro j x hj hx
    refine img_at (by omega) ?_
    constructor
    · intro h
      simp only [Bool.and_eq_true] at h
      exact ⟨j, by rw [On, hx, h.1], hj, rfl, h.2⟩
    · rintro ⟨i, h1, h2, h3, h4⟩
      obtain rfl : i = j := by omega
      rw [On, hx] at h1
      rw [Option.some.inj h1, h4]; rfl
  have hC := img_len (s.size + 1) (setR set s) A
  have h0 : A.length ≤ 68719476736 := by omega
  have hM := bytesOf_len set
  have hMat : ∀ j : Nat, j < 256 → (bytesOf set)[j]? = some (inSet set (j : Int)) := fun j h => bytesOf_at set h
  generalize bytesOf set = M at *
  have hMl : ∀ m : Nat, m < 256 → m + 1 ≤ (cb M).length := fun m hm => by rw [cb_len]; omega
  generalize img (s.size + 1) (setR set s) A = C at *
  have hCl : C.length ≤ s.size + 1 ∧ s.size + 1 ≤ C.length := by omega
  have p0 : List.replicate A.length [D.bool false] = bl (pre C (0 + 1)) := by
    have h1 := pre_set hz
    rw [pre_zero] at h1
    rw [← h1, hC, hA, ← bl_set, ← bl_rep, List.replicate_succ]
    rfl
  have pall : pre C (s.size + 1) = C := by rw [← hC]; exact pre_all C
  have hAl : s.size + 1 ≤ A.length := by omega
  clear hC hA hM hz
  refine gK ?_
  refine rn_loop s.size (fun j st => st.e 0 = .isl (bl A) ∧ st.e 1 = .ipt [.str s] 0 ∧ st.e 2 = .ipt (cb M) 0 ∧ st.e 5 = .osl 24 ∧ st.e 11 = .int .i64 s.size ∧ st.e 12 = .int .i64 j ∧ st.h 24 = .row 4 1 (bl (pre C (j + 1))) true ∧ 64 ≤ st.k) (j := 0) ⟨?_, ?_, ?_, ?_, ?_, ?_, ?_, ?_⟩ (Nat.zero_le _) ?_
  all_goals first | (simp only [go_sem, ↓reduceIte, Nat.reduceEqDiff, Nat.reduceAdd, Nat.reduceMul, Nat.reduceSub, Nat.reduceLT, Nat.reduceLeDiff, Int.reduceEq, Int.reduceLT, Int.reduceLE, Int.reduceNeg, Int.reduceAdd, Int.reduceSub, reduceCtorEq]; done) | (simp only [go_sem, ↓reduceIte, Nat.reduceEqDiff, Nat.reduceAdd, Nat.reduceMul, Nat.reduceSub, Nat.reduceLT, Nat.reduceLeDiff, Int.reduceEq, Int.reduceLT, Int.reduceLE, Int.reduceNeg, Int.reduceAdd, Int.reduceSub, reduceCtorEq]; rfl) | (simp only; omega) | (simp only [go_sem, ↓reduceIte, Nat.reduceEqDiff, Nat.reduceAdd, Nat.reduceMul, Nat.reduceSub, Nat.reduceLT, Nat.reduceLeDiff, Int.reduceEq, Int.reduceLT, Int.reduceLE, Int.reduceNeg, Int.reduceAdd, Int.reduceSub, reduceCtorEq, *]; done) | skip
  clear p0
  rintro j ⟨e, h, k⟩ hj ⟨i0, i1, i2, i5, i11, i12, b24, ik⟩
  dsimp only at i0 i1 i2 i5 i11 i12 b24 ik
  have n1 : ∀ c, c < 64 → (c = k) = False := fun c hc => by simp; omega
  have n2 : ∀ c, c < 64 → (k = c) = False := fun c hc => by simp; omega
  rcases nextC hj with ⟨hlt, c1⟩ | ⟨rfl, c1⟩
  · obtain ⟨x, hx⟩ := at_lt (show j < A.length by omega)
    have w1 := inc64 j (by omega)
    have w2 : 0 ≤ (((j + 1 : Nat) : Int)) := by omega
    obtain ⟨m, hm, hm2⟩ : ∃ m : Nat, byt s j = m ∧ m < 256 := ⟨(byt s j).toNat, by have := byt_bd s j; omega, by have := byt_bd s j; omega⟩
    have hix := ixD_at hlt
    have hc := hat j x hlt hx
    rw [hm] at hix hc
    have hmt := hMat m hm2
    have q1 := hMl m hm2
    have q2 := cb_sub hmt
    have q3 : (m : Int) < ((256 : Nat) : Int) := by omega
    have q4 : ∀ n : Nat, n * 1 = n := Nat.mul_one
    have p1 := pre_at C (j := j + 1) (by omega)
    have p2 := pre_set hc
    have p3 := bl_set (pre C (j + 1)) (j + 1) (x && inSet set m)
    have p4 : j + 1 < (pre C (j + 1)).length := by rw [pre_len C (by omega)]; omega
    rw [p2] at p3
    clear hat p2 pall hMat hMl hc hmt hm
    generalize inSet set m = y at *
    cases x
    · rw [Bool.false_and] at p3
      refine gK ?_
      refine ⟨hlt, ?_, ?_, ?_, ?_, ?_, ?_, ?_, ?_⟩
      all_goals first | (simp only [go_sem, ↓reduceIte, Nat.reduceEqDiff, Nat.reduceAdd, Nat.reduceMul, Nat.reduceSub, Nat.reduceLT, Nat.reduceLeDiff, Int.reduceEq, Int.reduceLT, Int.reduceLE, Int.reduceNeg, Int.reduceAdd, Int.reduceSub, reduceCtorEq, *]; done) | (simp only; omega)
    · rw [Bool.true_and] at p3
      refine gK ?_
      refine ⟨hlt, ?_, ?_, ?_, ?_, ?_, ?_, ?_, ?_⟩
      all_goals first | (simp only [go_sem, ↓reduceIte, Nat.reduceEqDiff, Nat.reduceAdd, Nat.reduceMul, Nat.reduceSub, Nat.reduceLT, Nat.reduceLeDiff, Int.reduceEq, Int.reduceLT, Int.reduceLE, Int.reduceNeg, Int.reduceAdd, Int.reduceSub, reduceCtorEq, *]; done) | (simp only; omega)
  · rw [pall] at b24
    exact gD
end Go.Proofs.Ytpdamhhaepcffaa.AE
/-
  regexec: variables that hold sets; the steps of a sequence and of an alternative.
-/
set_option linter.unusedVariables false
set_option linter.unusedSimpArgs false
set_option maxHeartbeats 4000000
set_option maxRecDepth 100000
namespace Go.Proofs.Ytpdamhhaepcffaa.AE
open Go
/-- Rows may have been given up. -/
def Fr (h h' : Hp) : Prop := ∀ l, h' l = h l ∨ ∃ e s X q, h l = .row e s X q ∧ h' l = .row e s X false
theorem Fr.refl (h : Hp) : Fr h h := fun l => .inl rfl
theorem Fr.trans {h h1 h2 : Hp} (a : Fr h h1) (b : Fr h1 h2) : Fr h h2 := fun l => by
  rcases b l with b | ⟨e, s, X, q, b1, b2⟩
  · rw [b]; exact a l
  · rcases a l with a | ⟨e', s', X', q', a1, a2⟩
    · exact .inr ⟨e, s, X, q, by rw [← a]; exact b1, b2⟩
    · rw [a2] at b1
      injection b1 with c1 c2 c3 c4
      subst c1; subst c2; subst c3
      exact .inr ⟨_, _, _, q', a1, b2⟩
theorem Fr.var {h h' : Hp} (a : Fr h h') {l : Nat} {cs : List D} {o : Bool} (hl : h l = .var cs o) : h' l = .var cs o := by
  rcases a l with a | ⟨e, s, X, q, a1, _⟩
  · rw [a, hl]
  · rw [hl] at a1; cases a1
/-- v holds the set A; its name, if any, is below k. -/
def SV (h : Hp) (k : Nat) (v : D) (A : List Bool) : Prop := v = .isl (bl A) ∨ ∃ o q, v = .osl o ∧ o < k ∧ h o = .row 4 1 (bl A) q
theorem SV.fr {h h' : Hp} {k k' : Nat} {v : D} {A : List Bool} (hv : SV h k v A) (hf : Fr h h') (hk : k ≤ k') : SV h' k' v A := by
  rcases hv with hv | ⟨o, q, h1, h2, h3⟩
  · exact .inl hv
  · rcases hf o with a | ⟨e, s, X, q', a1, a2⟩
    · exact .inr ⟨o, q, h1, by omega, by rw [a, h3]⟩
    · rw [h3] at a1
      injection a1 with c1 c2 c3 c4
      subst c1; subst c2; subst c3
      exact .inr ⟨o, false, h1, by omega, a2⟩
theorem SV.up {h : Hp} {k k' : Nat} {v : D} {A : List Bool} (hv : SV h k v A) (hk : k ≤ k') : SV h k' v A := hv.fr (.refl h) hk
/-- The same but at m. -/
def Kp (h h' : Hp) (m : Nat) : Prop := ∃ h1, Fr h h1 ∧ ∀ l, l ≠ m → h' l = h1 l
theorem SV.kp {h h' : Hp} {k k' m : Nat} {v : D} {A : List Bool} (hv : SV h k v A) (hk : Kp h h' m) (hm : k ≤ m) (hkk : k ≤ k') : SV h' k' v A := by
  obtain ⟨h1, f1, f2⟩ := hk
  rcases hv.fr f1 (Nat.le_refl _) with hv | ⟨o, q, a1, a2, a3⟩
  · exact .inl hv
  · exact .inr ⟨o, q, a1, by omega, by rw [f2 o (by omega)]; exact a3⟩
theorem Kp.var {h h' : Hp} {m l : Nat} {cs : List D} {o : Bool} (hk : Kp h h' m) (hl : h l = .var cs o) (hm : l ≠ m) : h' l = .var cs o := by
  obtain ⟨h1, f1, f2⟩ := hk
  rw [f2 l hm]
  exact f1.var hl
theorem SV.frz {h : Hp} {k : Nat} {v : D} {A : List Bool} (hv : SV h k v A) : ∃ h1, AE.frz (8 + 1) h v = some (.isl (bl A), h1) ∧ Fr h h1 := by
  rcases hv with rfl | ⟨o, q, rfl, _, h3⟩
  · exact ⟨h, rfl, .refl h⟩
  · refine ⟨hput h o (.row 4 1 (bl A) false), by rw [frz_osl, h3]; rfl, fun l => ?_⟩
    by_cases hl : l = o
    · subst hl; exact .inr ⟨4, 1, bl A, q, h3, hput_same _ _ _⟩
    · exact .inl (hput_ne _ _ hl)
theorem SV.elems {h : Hp} {k : Nat} {v : D} {A : List Bool} (hv : SV h k v A) : AE.elems h v = some (bl A) := by
  rcases hv with rfl | ⟨o, q, rfl, _, h3⟩
  · rfl
  · rw [elems_osl, h3]; rfl
theorem SV.ret {h : Hp} {k : Nat} {v : D} {A : List Bool} (hv : SV h k v A) : ∃ r, retL h [v] = some [r] ∧ IsSet r A := by
  rcases hv with rfl | ⟨o, q, rfl, _, h3⟩
  · exact ⟨_, rfl, .inl rfl⟩
  · cases q with
    | true => exact ⟨.own 4 1 (bl A), by simp only [go_sem, ↓reduceIte, Nat.reduceEqDiff, Nat.reduceAdd, Nat.reduceMul, Nat.reduceSub, Nat.reduceLT, Nat.reduceLeDiff, Int.reduceEq, Int.reduceLT, Int.reduceLE, Int.reduceNeg, Int.reduceAdd, Int.reduceSub, reduceCtorEq, h3], .inr rfl⟩
    | false => exact ⟨.isl (bl A), by simp only [go_sem, ↓reduceIte, Nat.reduceEqDiff, Nat.reduceAdd, Nat.reduceMul, Nat.reduceSub, Nat.reduceLT, Nat.reduceLeDiff, Int.reduceEq, Int.reduceLT, Int.reduceLE, Int.reduceNeg, Int.reduceAdd, Int.reduceSub, reduceCtorEq, h3], .inl rfl⟩
theorem tk_set {r : D} {A : List Bool} (hr : IsSet r A) (h : Hp) (m : Nat) : ∃ v h', takeIn h m [r] = ([v], h') ∧ SV h' (m + 1) v A ∧ ∀ l, l ≠ m → h' l = h l := by
  rcases hr with rfl | rfl
  · exact ⟨_, h, rfl, .inl rfl, fun l _ => rfl⟩
  · exact ⟨.osl m, _, rfl, .inr ⟨m, true, rfl, by omega, hput_same _ _ _⟩, fun l hl => hput_ne _ _ hl⟩
theorem set_sc {r : D} {A : List Bool} (hr : IsSet r A) : [r].all D.scalar = false := by rcases hr with rfl | rfl <;> rfl
section
variable {e : Env} {h h1 : Hp} {k i n t f : Nat} {args caps : List D} {r0 : D} {A : List Bool} {x : X} {xs : List X} {b : List Nat} {r : List XO} {K : St → Prop}
theorem s_st (hm : md f = false) (hq : frzL (fun h d => frz 9 h d) h (xs.map (X.ev e)) = some (args, h1)) (hF : Fr h h1) (hf : callP (Lv xp md) f args = some [r0]) (hs : IsSet r0 A)
    (hr : ∀ v h', SV h' (k + i + 1) v A → Kp h h' (k + i) → RO xp md k (i + 8) r (eput e t v) h' n K) : RO xp md k i (⟨some t, none, .call f xs, b⟩ :: r) e h n K := by
  obtain ⟨v, h', h2, h3, h4⟩ := tk_set hs h1 (k + i)
  exact s_cv (args' := [v]) (h' := h') (show RO xp md k (i + 8) r (eput e t (one [v])) h' n K from hr v h' h3 ⟨h1, hF, h4⟩) hm hq hf (set_sc hs) (show 1 ≤ 8 by omega) h2
theorem s_stv (hx : x.ev e = .fn f caps) (hm : md f = false) (hq : frzL (fun h d => frz 9 h d) h (xs.map (X.ev e) ++ caps) = some (args, h1)) (hF : Fr h h1) (hf : callP (Lv xp md) f args = some [r0]) (hs : IsSet r0 A)
    (hr : ∀ v h', SV h' (k + i + 1) v A → Kp h h' (k + i) → RO xp md k (i + 8) r (eput e t v) h' n K) : RO xp md k i (⟨some t, none, .callv x xs, b⟩ :: r) e h n K := by
  obtain ⟨v, h', h2, h3, h4⟩ := tk_set hs h1 (k + i)
  rw [ro_cons]
  simp only [wantedD, ys_some, if_true]
  rw [ev_callv hx hm, hq, ys_some, hf, ys_some, if_neg (by rw [set_sc hs]; simp), if_pos (show [r0].length ≤ 8 from (by simp)), h2]
  exact hr v h' h3 ⟨h1, hF, h4⟩
end
theorem frz1 {h h1 : Hp} {v : D} {A : List Bool} (hv : frz (8 + 1) h v = some (.isl (bl A), h1)) {caps : List D} (hc : caps.all D.im = true) : frzL (fun h d => frz 9 h d) h (v :: caps) = some (.isl (bl A) :: caps, h1) := by
  have h2 : frzL (fun h d => frz 9 h d) h1 caps = some (caps, h1) := frzL_im hc
  rw [frzL_cons]
  show ((frz (8 + 1) h v).bind _) = _
  rw [hv, Option.bind_some]
  show ((frzL (fun h d => frz 9 h d) h1 caps).bind _) = _
  rw [h2]
  rfl
theorem frz2 {h h1 h2 : Hp} {v w : D} {A B : List Bool} (hv : frz (8 + 1) h v = some (.isl (bl A), h1)) (hw : frz (8 + 1) h1 w = some (.isl (bl B), h2)) : frzL (fun h d => frz 9 h d) h [v, w] = some ([.isl (bl A), .isl (bl B)], h2) := by
  rw [frzL_cons]
  show ((frz (8 + 1) h v).bind _) = _
  rw [hv, Option.bind_some]
  show ((frzL (fun h d => frz 9 h d) h1 [w]).bind _) = _
  rw [frzL_cons]
  show (((frz (8 + 1) h1 w).bind _).bind _) = _
  rw [hw]
  rfl
theorem SV.frz2 {h : Hp} {k k' : Nat} {v w : D} {A B : List Bool} (hv : SV h k v A) (hw : SV h k' w B) : ∃ h2, frzL (fun h d => AE.frz 9 h d) h [v, w] = some ([.isl (bl A), .isl (bl B)], h2) ∧ Fr h h2 := by
  obtain ⟨h1, q1, f1⟩ := hv.frz
  obtain ⟨h2, q2, f2⟩ := (hw.fr f1 (Nat.le_refl _)).frz
  exact ⟨h2, AE.frz2 q1 q2, f1.trans f2⟩
def FinS (F : XF) (A : List Bool) : Ex → St → Prop
  | .exit _, _ => False
  | .nrm, s => ∃ w k, resOf s F.res = some [w] ∧ SV s.h k w A
  | .ret, s => ∃ w k, resOf s F.res = some [w] ∧ SV s.h k w A
theorem fn_s {f : Nat} {F : XF} {args : List D} {A : List Bool} (hF : xp f = some F) (hh : Rn xp md F.body ⟨envOf args, fun _ => .no, 0⟩ (FinS F A)) (ha : args.length ≤ F.nt) : ∃ r, callP (Lv xp md) f args = some [r] ∧ IsSet r A := by
  obtain ⟨m, ⟨ex, s⟩, h1, h2⟩ := hh
  have h3 : (ex = .nrm ∨ ex = .ret) ∧ ∃ w k, resOf s F.res = some [w] ∧ SV s.h k w A := by
    cases ex with
    | nrm => exact ⟨.inl rfl, h2⟩
    | ret => exact ⟨.inr rfl, h2⟩
    | exit i => exact h2.elim
  obtain ⟨h3, w, k, h4, h5⟩ := h3
  obtain ⟨r, h6, h7⟩ := h5.ret
  refine ⟨r, Fv_intro hF ha ⟨m, (ex, s), h1, h3, ?_⟩, h7⟩
  rw [h4]
  exact h6
theorem fs_r {F : XF} {A : List Bool} {e : Env} {h : Hp} {k k' : Nat} {w : D} {l : List (Nat × Option (Nat × Bool))} (hF : F.res = l) (hr : resOf (⟨e, h, k⟩ : St) l = some [w]) (hv : SV h k' w A) : Rn xp md .ret ⟨e, h, k⟩ (FinS F A) := rn_ret ⟨w, k', by rw [hF]; exact hr, hv⟩
/-- Function values in a slice. -/
def fnr (fs : List (Nat × List D)) : List (List D) := fs.map fun p => [.fn p.1 p.2]
theorem fnr_at (fs : List (Nat × List D)) (j : Nat) : (fnr fs)[j]? = fs[j]?.map fun p => [.fn p.1 p.2] := by simp [fnr]
theorem fnr_len (fs : List (Nat × List D)) : (fnr fs).length = fs.length := by simp [fnr]
/-- A slice of them that is read. -/
def FnV (v : D) (fs : List (Nat × List D)) : Prop := v = .isl (fnr fs) ∨ (v = .nls ∧ fs = [])
structure StepsOk (n : Nat) (fs : List (Nat × List D)) (Rs : List Rl) : Prop where
  len : fs.length = Rs.length
  at_ : ∀ (j : Nat) (p : Nat × List D) (R : Rl), fs[j]? = some p → Rs[j]? = some R → StepOk n p.1 p.2 R
noncomputable def seqI (n : Nat) (Rs : List Rl) (A : List Bool) : List Bool := Rs.foldl (fun X R => img n R X) A
theorem seqI_len {n : Nat} : ∀ {Rs : List Rl} {A : List Bool}, A.length = n → (seqI n Rs A).length = n
  | [], A, h => h
  | R :: Rs, A, h => seqI_len (Rs := Rs) (img_len n R A)
theorem seqI_take {n : Nat} {Rs : List Rl} {A : List Bool} {j : Nat} {R : Rl} (h : Rs[j]? = some R) : seqI n (Rs.take (j + 1)) A = img n R (seqI n (Rs.take j) A) := by
  unfold seqI
  rw [List.take_add_one, h]
  simp [List.foldl_append]
noncomputable def altI (n : Nat) (Rs : List Rl) (A : List Bool) : List Bool := Rs.foldl (fun X R => orB X (img n R A)) (non n)
theorem altI_take {n : Nat} {Rs : List Rl} {A : List Bool} {j : Nat} {R : Rl} (h : Rs[j]? = some R) : altI n (Rs.take (j + 1)) A = orB (altI n (Rs.take j) A) (img n R A) := by
  unfold altI
  rw [List.take_add_one, h]
  simp [List.foldl_append]
theorem altI_len {n : Nat} {A : List Bool} : ∀ (Rs : List Rl) (X : List Bool), X.length = n → (Rs.foldl (fun X R => orB X (img n R A)) X).length = n
  | [], X, h => h
  | R :: Rs, X, h => altI_len Rs (orB X (img n R A)) (by rw [orB_len (by rw [h, img_len]), h])
theorem f41 {v : D} {fs : List (Nat × List D)} (hv : FnV v fs) {n : Nat} {Rs : List Rl} (hok : StepsOk n fs Rs) (hl : fs.length < 2000000000000) (A : List Bool) (hA : A.length = n) : ∃ r, callP (Lv xp md) 41 [.isl (bl A), .ipt [v] 0] = some [r] ∧ IsSet r (seqI n Rs A) := by
  refine fn_s (F := F41) rfl ?_ (by simp only [NT, List.length_cons, List.length_nil]; omega)
  have hve : ∀ h, elems h v = some (fnr fs) := fun h => by rcases hv with rfl | ⟨rfl, rfl⟩ <;> rfl
  have hvi : ∀ h j p, fs[j]? = some p → iaD h 1 j v = some (.ipt [.fn p.1 p.2] 0, h) := fun h j p hp => by
    rcases hv with rfl | ⟨rfl, rfl⟩
    · simp only [iaD, fnr_at, hp, Option.map_some]; rfl
    · cases hp
  have hll := fnr_len fs
  refine gK ?_
  refine rn_loop fs.length (fun j st => st.e 1 = .ipt [v] 0 ∧ st.e 6 = .int .i64 fs.length ∧ st.e 7 = .int .i64 j ∧ SV st.h st.k (st.e 0) (seqI n (Rs.take j) A)) (j := 0) ⟨?_, ?_, ?_, ?_⟩ (Nat.zero_le _) ?_
  · simp only [go_sem, ↓reduceIte, Nat.reduceEqDiff, Nat.reduceAdd, Nat.reduceMul, Nat.reduceSub, Nat.reduceLT, Nat.reduceLeDiff, Int.reduceEq, Int.reduceLT, Int.reduceLE, Int.reduceNeg, Int.reduceAdd, Int.reduceSub, reduceCtorEq]
  · simp only [go_sem, ↓reduceIte, Nat.reduceEqDiff, Nat.reduceAdd, Nat.reduceMul, Nat.reduceSub, Nat.reduceLT, Nat.reduceLeDiff, Int.reduceEq, Int.reduceLT, Int.reduceLE, Int.reduceNeg, Int.reduceAdd, Int.reduceSub, reduceCtorEq, hll]
  · simp only [go_sem, ↓reduceIte, Nat.reduceEqDiff, Nat.reduceAdd, Nat.reduceMul, Nat.reduceSub, Nat.reduceLT, Nat.reduceLeDiff, Int.reduceEq, Int.reduceLT, Int.reduceLE, Int.reduceNeg, Int.reduceAdd, Int.reduceSub, reduceCtorEq]; rfl
  · exact .inl rfl
  rintro j ⟨e, h, k⟩ hj ⟨i1, i6, i7, hS⟩
  dsimp only at i1 i6 i7 hS
  rcases nextC hj with ⟨hlt, c1⟩ | ⟨rfl, c1⟩
  · obtain ⟨p, hp⟩ := at_lt hlt
    obtain ⟨R, hR⟩ := at_lt (show j < Rs.length by have := hok.len; omega)
    have w1 := inc64 j (by omega)
    have hst := hok.at_ j p R hp hR
    have hXl : (seqI n (Rs.take j) A).length = n := seqI_len hA
    have hta := seqI_take (n := n) (A := A) hR
    have hi := fun h => hvi h j p hp
    generalize seqI n (Rs.take j) A = X at *
    obtain ⟨h1, q1, f1⟩ := hS.frz
    obtain ⟨r0, hc, hs⟩ := hst.c X hXl
    have hz := frz1 q1 hst.im
    generalize e0 : e 0 = v0 at *
    clear hve hvi hll hok hv hR hp hS
    refine gK ?_
    refine s_stv (f := p.1) (caps := p.2) (h1 := h1) (r0 := r0) ?_ rfl ?_ f1 hc hs ?_
    · simp only [go_sem, ↓reduceIte, Nat.reduceEqDiff, Nat.reduceAdd, Nat.reduceMul, Nat.reduceSub, Nat.reduceLT, Nat.reduceLeDiff, Int.reduceEq, Int.reduceLT, Int.reduceLE, Int.reduceNeg, Int.reduceAdd, Int.reduceSub, reduceCtorEq]
    · simp only [go_sem, ↓reduceIte, Nat.reduceEqDiff, Nat.reduceAdd, Nat.reduceMul, Nat.reduceSub, Nat.reduceLT, Nat.reduceLeDiff, Int.reduceEq, Int.reduceLT, Int.reduceLE, Int.reduceNeg, Int.reduceAdd, Int.reduceSub, reduceCtorEq, e0]; exact hz
    intro v2 h2 hv2 hk2
    refine gK ?_
    refine ⟨hlt, ?_, ?_, ?_, ?_⟩
    · simp only [go_sem, ↓reduceIte, Nat.reduceEqDiff, Nat.reduceAdd, Nat.reduceMul, Nat.reduceSub, Nat.reduceLT, Nat.reduceLeDiff, Int.reduceEq, Int.reduceLT, Int.reduceLE, Int.reduceNeg, Int.reduceAdd, Int.reduceSub, reduceCtorEq, i1]
    · simp only [go_sem, ↓reduceIte, Nat.reduceEqDiff, Nat.reduceAdd, Nat.reduceMul, Nat.reduceSub, Nat.reduceLT, Nat.reduceLeDiff, Int.reduceEq, Int.reduceLT, Int.reduceLE, Int.reduceNeg, Int.reduceAdd, Int.reduceSub, reduceCtorEq, i6]
    · simp only [go_sem, ↓reduceIte, Nat.reduceEqDiff, Nat.reduceAdd, Nat.reduceMul, Nat.reduceSub, Nat.reduceLT, Nat.reduceLeDiff, Int.reduceEq, Int.reduceLT, Int.reduceLE, Int.reduceNeg, Int.reduceAdd, Int.reduceSub, reduceCtorEq]
    · rw [hta]
      simp only [go_sem, ↓reduceIte, Nat.reduceEqDiff, Nat.reduceAdd, Nat.reduceMul, Nat.reduceSub, Nat.reduceLT, Nat.reduceLeDiff, Int.reduceEq, Int.reduceLT, Int.reduceLE, Int.reduceNeg, Int.reduceAdd, Int.reduceSub, reduceCtorEq]
      exact hv2.up (by (try simp only); omega)
  · have hta : Rs.take fs.length = Rs := List.take_of_length_le (by have := hok.len; omega)
    rw [hta] at hS
    refine gK ?_
    refine fs_r (by simp only [RS]; rfl) ?_ hS
    simp only [go_sem, ↓reduceIte, Nat.reduceEqDiff, Nat.reduceAdd, Nat.reduceMul, Nat.reduceSub, Nat.reduceLT, Nat.reduceLeDiff, Int.reduceEq, Int.reduceLT, Int.reduceLE, Int.reduceNeg, Int.reduceAdd, Int.reduceSub, reduceCtorEq]
end Go.Proofs.Ytpdamhhaepcffaa.AE
/-
  regexec: the steps of an alternative and of a repetition.
-/
set_option linter.unusedVariables false
set_option linter.unusedSimpArgs false
set_option maxHeartbeats 4000000
set_option maxRecDepth 100000
namespace Go.Proofs.Ytpdamhhaepcffaa.AE
open Go
theorem f42 {v : D} {fs : List (Nat × List D)} (hv : FnV v fs) {n : Nat} (hn : n ≤ 501) {Rs : List Rl} (hok : StepsOk n fs Rs) (hl : fs.length < 2000000000000) (A : List Bool) (hA : A.length = n) : ∃ r, callP (Lv xp md) 42 [.isl (bl A), .ipt [v] 0] = some [r] ∧ IsSet r (altI n Rs A) := by
  refine fn_s (F := F42) rfl ?_ (by simp only [NT, List.length_cons, List.length_nil]; omega)
  have hve : ∀ h, elems h v = some (fnr fs) := fun h => by rcases hv with rfl | ⟨rfl, rfl⟩ <;> rfl
  have hvi : ∀ h j p, fs[j]? = some p → iaD h 1 j v = some (.ipt [.fn p.1 p.2] 0, h) := fun h j p hp => by
    rcases hv with rfl | ⟨rfl, rfl⟩
    · simp only [iaD, fnr_at, hp, Option.map_some]; rfl
    · cases hp
  have hll := fnr_len fs
  have h0 : A.length ≤ 68719476736 := by omega
  have hz0 : List.replicate A.length [D.bool false] = bl (altI n (Rs.take 0) A) := by rw [bl_rep, hA]; rfl
  have hz : Hid (List.replicate A.length [D.bool false] = bl (altI n (Rs.take 0) A)) := hz0
  have hAh : Hid (A.length = n) := hA
  clear hz0 hA
  refine gK ?_
  refine rn_loop fs.length (fun j st => st.e 0 = .isl (bl A) ∧ st.e 1 = .ipt [v] 0 ∧ st.e 10 = .int .i64 fs.length ∧ st.e 11 = .int .i64 j ∧ SV st.h st.k (st.e 4) (altI n (Rs.take j) A)) (j := 0) ⟨?_, ?_, ?_, ?_, ?_⟩ (Nat.zero_le _) ?_
  · simp only [go_sem, ↓reduceIte, Nat.reduceEqDiff, Nat.reduceAdd, Nat.reduceMul, Nat.reduceSub, Nat.reduceLT, Nat.reduceLeDiff, Int.reduceEq, Int.reduceLT, Int.reduceLE, Int.reduceNeg, Int.reduceAdd, Int.reduceSub, reduceCtorEq]
  · simp only [go_sem, ↓reduceIte, Nat.reduceEqDiff, Nat.reduceAdd, Nat.reduceMul, Nat.reduceSub, Nat.reduceLT, Nat.reduceLeDiff, Int.reduceEq, Int.reduceLT, Int.reduceLE, Int.reduceNeg, Int.reduceAdd, Int.reduceSub, reduceCtorEq]
  · simp only [go_sem, ↓reduceIte, Nat.reduceEqDiff, Nat.reduceAdd, Nat.reduceMul, Nat.reduceSub, Nat.reduceLT, Nat.reduceLeDiff, Int.reduceEq, Int.reduceLT, Int.reduceLE, Int.reduceNeg, Int.reduceAdd, Int.reduceSub, reduceCtorEq, hll]
  · simp only [go_sem, ↓reduceIte, Nat.reduceEqDiff, Nat.reduceAdd, Nat.reduceMul, Nat.reduceSub, Nat.reduceLT, Nat.reduceLeDiff, Int.reduceEq, Int.reduceLT, Int.reduceLE, Int.reduceNeg, Int.reduceAdd, Int.reduceSub, reduceCtorEq]; rfl
  · refine .inr ⟨24, true, by simp only [go_sem, ↓reduceIte, Nat.reduceEqDiff, Nat.reduceAdd, Nat.reduceMul, Nat.reduceSub, Nat.reduceLT, Nat.reduceLeDiff, Int.reduceEq, Int.reduceLT, Int.reduceLE, Int.reduceNeg, Int.reduceAdd, Int.reduceSub, reduceCtorEq], by simp only; omega, ?_⟩
    simp only [go_sem, ↓reduceIte, Nat.reduceEqDiff, Nat.reduceAdd, Nat.reduceMul, Nat.reduceSub, Nat.reduceLT, Nat.reduceLeDiff, Int.reduceEq, Int.reduceLT, Int.reduceLE, Int.reduceNeg, Int.reduceAdd, Int.reduceSub, reduceCtorEq]
    rw [show _ = bl _ from hz]
    rfl
  clear hz
  rintro j ⟨e, h, k⟩ hj ⟨i0, i1, i10, i11, hS⟩
  dsimp only at i0 i1 i10 i11 hS
  rcases nextC hj with ⟨hlt, c1⟩ | ⟨rfl, c1⟩
  · obtain ⟨p, hp⟩ := at_lt hlt
    obtain ⟨R, hR⟩ := at_lt (show j < Rs.length by have := hok.len; omega)
    have w1 := inc64 j (by omega)
    have hst := hok.at_ j p R hp hR
    have hXl : (altI n (Rs.take j) A).length = n := altI_len _ _ (non_len n)
    have hta := altI_take (n := n) (A := A) hR
    have hi := fun h => hvi h j p hp
    generalize altI n (Rs.take j) A = X at *
    obtain ⟨r0, hc, hs⟩ := hst.c A hAh
    have hzz : frzL (fun h d => frz 9 h d) h (.isl (bl A) :: p.2) = some (.isl (bl A) :: p.2, h) := frz1 (h1 := h) rfl hst.im
    have hor := f43 X (img n R A) (by omega) (by rw [img_len, hXl])
    have horh : Hid (callP (Lv xp md) 43 [.isl (bl X), .isl (bl (img n R A))] = some [.own 4 1 (bl (orB X (img n R A)))]) := hor
    generalize e4 : e 4 = v0 at *
    clear hve hvi hll hok hv hR hp hor
    refine gK ?_
    refine s_stv (f := p.1) (caps := p.2) (h1 := h) (r0 := r0) ?_ rfl ?_ (.refl h) hc hs ?_
    · simp only [go_sem, ↓reduceIte, Nat.reduceEqDiff, Nat.reduceAdd, Nat.reduceMul, Nat.reduceSub, Nat.reduceLT, Nat.reduceLeDiff, Int.reduceEq, Int.reduceLT, Int.reduceLE, Int.reduceNeg, Int.reduceAdd, Int.reduceSub, reduceCtorEq]
    · simp only [go_sem, ↓reduceIte, Nat.reduceEqDiff, Nat.reduceAdd, Nat.reduceMul, Nat.reduceSub, Nat.reduceLT, Nat.reduceLeDiff, Int.reduceEq, Int.reduceLT, Int.reduceLE, Int.reduceNeg, Int.reduceAdd, Int.reduceSub, reduceCtorEq]; exact hzz
    intro v2 h2 hv2 hk2
    have hS2 := hS.kp hk2 (k' := k + 8 + 16 + 48 + 1) (by omega) (by omega)
    obtain ⟨h3, q3, f3⟩ := hS2.frz2 hv2
    refine s_st (h1 := h3) (r0 := .own 4 1 (bl (orB X (img n R A)))) (A := orB X (img n R A)) (args := [.isl (bl X), .isl (bl (img n R A))]) rfl ?_ f3 horh (.inr rfl) ?_
    · simp only [go_sem, ↓reduceIte, Nat.reduceEqDiff, Nat.reduceAdd, Nat.reduceMul, Nat.reduceSub, Nat.reduceLT, Nat.reduceLeDiff, Int.reduceEq, Int.reduceLT, Int.reduceLE, Int.reduceNeg, Int.reduceAdd, Int.reduceSub, reduceCtorEq, e4]; exact q3
    intro v4 h4 hv4 hk4
    refine gK ?_
    refine ⟨hlt, ?_, ?_, ?_, ?_, ?_⟩
    · simp only [go_sem, ↓reduceIte, Nat.reduceEqDiff, Nat.reduceAdd, Nat.reduceMul, Nat.reduceSub, Nat.reduceLT, Nat.reduceLeDiff, Int.reduceEq, Int.reduceLT, Int.reduceLE, Int.reduceNeg, Int.reduceAdd, Int.reduceSub, reduceCtorEq, i0]
    · simp only [go_sem, ↓reduceIte, Nat.reduceEqDiff, Nat.reduceAdd, Nat.reduceMul, Nat.reduceSub, Nat.reduceLT, Nat.reduceLeDiff, Int.reduceEq, Int.reduceLT, Int.reduceLE, Int.reduceNeg, Int.reduceAdd, Int.reduceSub, reduceCtorEq, i1]
    · simp only [go_sem, ↓reduceIte, Nat.reduceEqDiff, Nat.reduceAdd, Nat.reduceMul, Nat.reduceSub, Nat.reduceLT, Nat.reduceLeDiff, Int.reduceEq, Int.reduceLT, Int.reduceLE, Int.reduceNeg, Int.reduceAdd, Int.reduceSub, reduceCtorEq, i10]
    · simp only [go_sem, ↓reduceIte, Nat.reduceEqDiff, Nat.reduceAdd, Nat.reduceMul, Nat.reduceSub, Nat.reduceLT, Nat.reduceLeDiff, Int.reduceEq, Int.reduceLT, Int.reduceLE, Int.reduceNeg, Int.reduceAdd, Int.reduceSub, reduceCtorEq]
    · rw [hta]
      simp only [go_sem, ↓reduceIte, Nat.reduceEqDiff, Nat.reduceAdd, Nat.reduceMul, Nat.reduceSub, Nat.reduceLT, Nat.reduceLeDiff, Int.reduceEq, Int.reduceLT, Int.reduceLE, Int.reduceNeg, Int.reduceAdd, Int.reduceSub, reduceCtorEq]
      exact hv4.up (by (try simp only); omega)
  · have hta : Rs.take fs.length = Rs := List.take_of_length_le (by have := hok.len; omega)
    rw [hta] at hS
    refine gK ?_
    refine fs_r (by simp only [RS]; rfl) ?_ hS
    simp only [go_sem, ↓reduceIte, Nat.reduceEqDiff, Nat.reduceAdd, Nat.reduceMul, Nat.reduceSub, Nat.reduceLT, Nat.reduceLeDiff, Int.reduceEq, Int.reduceLT, Int.reduceLE, Int.reduceNeg, Int.reduceAdd, Int.reduceSub, reduceCtorEq]
/-- What a scalar call on two sets is asked. -/
theorem s_c2 {e : Env} {h : Hp} {k i n t f a b : Nat} {kk kk' : Nat} {v w : D} {A B : List Bool} {bb : Bool} {bs : List Nat} {r : List XO} {K : St → Prop} (hv : SV h kk v A) (hw : SV h kk' w B) (ha : e a = v) (hb : e b = w) (hm : md f = false) (hf : callP (Lv xp md) f [.isl (bl A), .isl (bl B)] = some [.bool bb])
    (hr : RO xp md k (i + 8) r (eput e t (.bool bb)) h n K) : RO xp md k i (⟨some t, none, .call f [.t a, .t b], bs⟩ :: r) e h n K := by
  obtain ⟨h2, q, f2⟩ := hv.frz2 hw
  refine s_cs (rs := [.bool bb]) (args := [.isl (bl A), .isl (bl B)]) (h1 := h2) hr hm ?_ hf rfl
  show frzL _ h [e a, e b] = _
  rw [ha, hb]
  exact q
theorem s_c1 {e : Env} {h : Hp} {k i n t f a : Nat} {kk : Nat} {v : D} {A : List Bool} {bb : Bool} {bs : List Nat} {r : List XO} {K : St → Prop} (hv : SV h kk v A) (ha : e a = v) (hm : md f = false) (hf : callP (Lv xp md) f [.isl (bl A)] = some [.bool bb])
    (hr : RO xp md k (i + 8) r (eput e t (.bool bb)) h n K) : RO xp md k i (⟨some t, none, .call f [.t a], bs⟩ :: r) e h n K := by
  obtain ⟨h2, q, f2⟩ := hv.frz
  refine s_cs (rs := [.bool bb]) (args := [.isl (bl A)]) (h1 := h2) hr hm ?_ hf rfl
  show frzL _ h [e a] = _
  rw [ha]
  exact frz1 (caps := []) q rfl
theorem f57 {f : Nat} {caps : List D} {n : Nat} (hn : n ≤ 501) {R : Rl} (hR : Wf n R) (hok : StepOk n f caps R) (low high : Int) (hl : 0 ≤ low ∧ low ≤ 1000) (hh : high = -1 ∨ (low ≤ high ∧ high ≤ 1000)) (A : List Bool) (hA : A.length = n) :
    ∃ r, callP (Lv xp md) 57 [.isl (bl A), .ipt [.int .i64 low] 0, .ipt [.int .i64 high] 0, .ipt [.fn f caps] 0] = some [r] ∧ IsSet r (img n (rep R low high) A) := by
  refine fn_s (F := F57) rfl ?_ (by simp only [NT, List.length_cons, List.length_nil]; omega)
  have h0 : A.length ≤ 68719476736 := by omega
  have hz : Hid (List.replicate A.length [D.bool false] = bl (uI n R A low 0)) := by show _ = _; rw [bl_rep, hA]; rfl
  have hAh : Hid (A.length = n) := hA
  clear hA
  refine gK ?_
  refine rn_loop 3000 (fun j st => st.e 1 = .ipt [.int .i64 low] 0 ∧ st.e 2 = .ipt [.int .i64 high] 0 ∧ st.e 3 = .ipt [.fn f caps] 0 ∧ st.e 8 = .int .i64 j ∧ SV st.h st.k (st.e 6) (uI n R A low j) ∧ SV st.h st.k (st.e 7) (pI n R A j) ∧ (high < 0 ∨ (j : Int) ≤ high) ∧ (high < 0 → low < j → (j : Int) ≤ low + 1 + (uI n R A low j).count true)) (j := 0) ⟨?_, ?_, ?_, ?_, ?_, ?_, ?_, ?_⟩ (Nat.zero_le _) ?_
  · simp only [go_sem, ↓reduceIte, Nat.reduceEqDiff, Nat.reduceAdd, Nat.reduceMul, Nat.reduceSub, Nat.reduceLT, Nat.reduceLeDiff, Int.reduceEq, Int.reduceLT, Int.reduceLE, Int.reduceNeg, Int.reduceAdd, Int.reduceSub, reduceCtorEq]
  · simp only [go_sem, ↓reduceIte, Nat.reduceEqDiff, Nat.reduceAdd, Nat.reduceMul, Nat.reduceSub, Nat.reduceLT, Nat.reduceLeDiff, Int.reduceEq, Int.reduceLT, Int.reduceLE, Int.reduceNeg, Int.reduceAdd, Int.reduceSub, reduceCtorEq]
  · simp only [go_sem, ↓reduceIte, Nat.reduceEqDiff, Nat.reduceAdd, Nat.reduceMul, Nat.reduceSub, Nat.reduceLT, Nat.reduceLeDiff, Int.reduceEq, Int.reduceLT, Int.reduceLE, Int.reduceNeg, Int.reduceAdd, Int.reduceSub, reduceCtorEq]
  · simp only [go_sem, ↓reduceIte, Nat.reduceEqDiff, Nat.reduceAdd, Nat.reduceMul, Nat.reduceSub, Nat.reduceLT, Nat.reduceLeDiff, Int.reduceEq, Int.reduceLT, Int.reduceLE, Int.reduceNeg, Int.reduceAdd, Int.reduceSub, reduceCtorEq]; rfl
  · refine .inr ⟨24, true, by simp only [go_sem, ↓reduceIte, Nat.reduceEqDiff, Nat.reduceAdd, Nat.reduceMul, Nat.reduceSub, Nat.reduceLT, Nat.reduceLeDiff, Int.reduceEq, Int.reduceLT, Int.reduceLE, Int.reduceNeg, Int.reduceAdd, Int.reduceSub, reduceCtorEq], by simp only; omega, ?_⟩
    simp only [go_sem, ↓reduceIte, Nat.reduceEqDiff, Nat.reduceAdd, Nat.reduceMul, Nat.reduceSub, Nat.reduceLT, Nat.reduceLeDiff, Int.reduceEq, Int.reduceLT, Int.reduceLE, Int.reduceNeg, Int.reduceAdd, Int.reduceSub, reduceCtorEq]
    rw [show _ = bl _ from hz]
  · exact .inl eB
  · omega
  · intro _ h; omega
  clear hz h0
  rintro j ⟨e, h, k⟩ hj ⟨i1, i2, i3, i8, hU, hP, hb, hcnt⟩
  dsimp only at i1 i2 i3 i8 hU hP
  have hA : A.length = n := hAh
  have lU := uI_len (R := R) hA low j
  have lP := pI_len (R := R) hA j
  have hcl := cnt_len (uI n R A low j)
  have hjl : j < 3000 := by
    rcases Int.lt_or_le high 0 with h2 | h2
    · rcases Int.lt_or_le low (j : Int) with h1 | h1
      · have := hcnt h2 h1; omega
      · omega
    · omega
  have w1 := inc64 j (by omega)
  have r1 := fun hh1 hm he => ex1 (low := low) (high := high) (m := j) hR hA hl.1 hm he hh1
  have r2 := fun he => ex2 (low := low) (high := high) (m := j) hR hA he
  have r3 := fun he => ex3 (low := low) (high := high) (m := j) hR hA hb he
  have r4 := fun he => ex4 (low := low) (high := high) (m := j) hR hA (by omega) hb he
  have rc := fun hm he => uI_cnt (R := R) (low := low) (m := j) hA hm he
  have hu1 : uI n R A low (j + 1) = if low ≤ (j : Int) then orB (uI n R A low j) (pI n R A j) else uI n R A low j := rfl
  have hp1 : pI n R A (j + 1) = img n R (pI n R A j) := rfl
  obtain ⟨r0, hc, hs⟩ := hok.c (pI n R A j) lP
  have hor := f43 (uI n R A low j) (pI n R A j) (by omega) (by omega)
  have hsame := f58 (orB (uI n R A low j) (pI n R A j)) (uI n R A low j) (by rw [orB_len (by omega)]; omega) (by rw [orB_len (by omega)])
  have hsm := f33 (pI n R A j) (by omega)
  have hsn := f58 (img n R (pI n R A j)) (pI n R A j) (by rw [img_len]; omega) (by rw [img_len]; omega)
  have hsame2 : ∀ X Y : List Bool, True := fun _ _ => trivial
  clear hsame2
  have hor2 := f43 (uI n R A low (j + 1)) (pI n R A j) (by rw [uI_len hA]; omega) (by rw [uI_len hA, lP])
  have lU' := uI_len (R := R) hA low (j + 1)
  have hp1' : pI n R A (j + 1) = img n R (pI n R A j) := rfl
  rw [hp1'] at r4
  rw [show (pI n R A (j + 1)) = img n R (pI n R A j) from rfl]
  clear hp1 hp1'
  generalize hPe : pI n R A j = P at *
  generalize hUe : uI n R A low j = U at *
  generalize hU'e : uI n R A low (j + 1) = U' at *
  generalize hTe : img n (rep R low high) A = T at *
  clear hPe hUe hU'e hTe hA lU lP lU'
  have hor' : Hid (callP (Lv xp md) 43 [.isl (bl U'), .isl (bl P)] = some [.own 4 1 (bl (orB U' P))]) := hor2
  have horh : Hid (callP (Lv xp md) 43 [.isl (bl U), .isl (bl P)] = some [.own 4 1 (bl (orB U P))]) := hor
  clear hor hor2
  have hsmh : Hid (callP (Lv xp md) 33 [.isl (bl P)] = some [.bool (some_ P)]) := hsm
  have hsnh : Hid (callP (Lv xp md) 58 [.isl (bl (img n R P)), .isl (bl P)] = some [.bool (decide (img n R P = P))]) := hsn
  have hsameh : Hid (callP (Lv xp md) 58 [.isl (bl (orB U P)), .isl (bl U)] = some [.bool (decide (orB U P = U))]) := hsame
  have hch : Hid (callP (Lv xp md) f (.isl (bl P) :: caps) = some [r0]) := hc
  clear hsm hsn hsame hc
  generalize e6 : e 6 = v6 at *
  generalize e7 : e 7 = v7 at *
  cases c19 : decide (low ≤ (j : Int)) with
  | false =>
    have hlow := of_decide_eq_false c19
    rw [if_neg hlow] at hu1
    subst hu1
    have hcnt2 : high < 0 → low < ((j + 1 : Nat) : Int) → ((j + 1 : Nat) : Int) ≤ low + 1 + (U'.count true : Nat) := by intro _ h; omega
    clear r1 rc hcnt hsameh horh
    cases c40 : decide ((j : Int) = high) with
    | true =>
      have hT := r2 (of_decide_eq_true c40)
      refine gK ?_
      rw [hT] at hU
      exact fs_r (by simp only [RS]; rfl) eA hU
    | false =>
      refine gK ?_
      refine s_c1 hP (by simp only [go_sem, ↓reduceIte, Nat.reduceEqDiff, Nat.reduceAdd, Nat.reduceMul, Nat.reduceSub, Nat.reduceLT, Nat.reduceLeDiff, Int.reduceEq, Int.reduceLT, Int.reduceLE, Int.reduceNeg, Int.reduceAdd, Int.reduceSub, reduceCtorEq, e7]) rfl hsmh ?_
      cases hsp : some_ P with
      | false =>
        have hT := r3 hsp
        refine gK ?_
        rw [hT] at hU
        exact fs_r (by simp only [RS]; rfl) eA hU
      | true =>
        refine gK ?_
        obtain ⟨ha, qa, fa⟩ := hP.frz
        refine s_stv (f := f) (caps := caps) (h1 := ha) (r0 := r0) eA rfl (by simp only [go_sem, ↓reduceIte, Nat.reduceEqDiff, Nat.reduceAdd, Nat.reduceMul, Nat.reduceSub, Nat.reduceLT, Nat.reduceLeDiff, Int.reduceEq, Int.reduceLT, Int.reduceLE, Int.reduceNeg, Int.reduceAdd, Int.reduceSub, reduceCtorEq, e7]; exact frz1 qa hok.im) fa hch hs ?_
        intro vb hbp hvb hkb
        have hUb := hU.kp hkb (by omega) (Nat.le_refl _)
        have hPb := hP.kp hkb (by omega) (Nat.le_refl _)
        refine gK ?_
        refine s_c2 hvb hPb eA (by simp only [go_sem, ↓reduceIte, Nat.reduceEqDiff, Nat.reduceAdd, Nat.reduceMul, Nat.reduceSub, Nat.reduceLT, Nat.reduceLeDiff, Int.reduceEq, Int.reduceLT, Int.reduceLE, Int.reduceNeg, Int.reduceAdd, Int.reduceSub, reduceCtorEq, e7]) rfl hsnh ?_
        cases hsq : decide (img n R P = P) with
        | true =>
          have hT := r4 (of_decide_eq_true hsq)
          refine gK ?_
          obtain ⟨hd, qd, fd⟩ := hUb.frz2 hPb
          refine s_st (h1 := hd) (r0 := .own 4 1 (bl (orB U' P))) (A := orB U' P) rfl (by simp only [go_sem, ↓reduceIte, Nat.reduceEqDiff, Nat.reduceAdd, Nat.reduceMul, Nat.reduceSub, Nat.reduceLT, Nat.reduceLeDiff, Int.reduceEq, Int.reduceLT, Int.reduceLE, Int.reduceNeg, Int.reduceAdd, Int.reduceSub, reduceCtorEq, e7, e6]; exact qd) fd hor' (.inr rfl) ?_
          intro vc hc2 hvc hkc
          refine gK ?_
          rw [hT] at hvc
          exact fs_r (by simp only [RS]; rfl) eA hvc
        | false =>
          refine gK ?_
          refine ⟨hjl, ?_, ?_, ?_, ?_, ?_, ?_, ?_, ?_⟩
          · simp only [go_sem, ↓reduceIte, Nat.reduceEqDiff, Nat.reduceAdd, Nat.reduceMul, Nat.reduceSub, Nat.reduceLT, Nat.reduceLeDiff, Int.reduceEq, Int.reduceLT, Int.reduceLE, Int.reduceNeg, Int.reduceAdd, Int.reduceSub, reduceCtorEq, *]
          · simp only [go_sem, ↓reduceIte, Nat.reduceEqDiff, Nat.reduceAdd, Nat.reduceMul, Nat.reduceSub, Nat.reduceLT, Nat.reduceLeDiff, Int.reduceEq, Int.reduceLT, Int.reduceLE, Int.reduceNeg, Int.reduceAdd, Int.reduceSub, reduceCtorEq, *]
          · simp only [go_sem, ↓reduceIte, Nat.reduceEqDiff, Nat.reduceAdd, Nat.reduceMul, Nat.reduceSub, Nat.reduceLT, Nat.reduceLeDiff, Int.reduceEq, Int.reduceLT, Int.reduceLE, Int.reduceNeg, Int.reduceAdd, Int.reduceSub, reduceCtorEq, *]
          · simp only [go_sem, ↓reduceIte, Nat.reduceEqDiff, Nat.reduceAdd, Nat.reduceMul, Nat.reduceSub, Nat.reduceLT, Nat.reduceLeDiff, Int.reduceEq, Int.reduceLT, Int.reduceLE, Int.reduceNeg, Int.reduceAdd, Int.reduceSub, reduceCtorEq, *]
          · simp only [go_sem, ↓reduceIte, Nat.reduceEqDiff, Nat.reduceAdd, Nat.reduceMul, Nat.reduceSub, Nat.reduceLT, Nat.reduceLeDiff, Int.reduceEq, Int.reduceLT, Int.reduceLE, Int.reduceNeg, Int.reduceAdd, Int.reduceSub, reduceCtorEq, e6]
            exact hUb.up (by (try simp only); omega)
          · simp only [go_sem, ↓reduceIte, Nat.reduceEqDiff, Nat.reduceAdd, Nat.reduceMul, Nat.reduceSub, Nat.reduceLT, Nat.reduceLeDiff, Int.reduceEq, Int.reduceLT, Int.reduceLE, Int.reduceNeg, Int.reduceAdd, Int.reduceSub, reduceCtorEq]
            exact hvb.up (by (try simp only); omega)
          · have := of_decide_eq_false c40
            omega
          · exact hcnt2
  | true =>
    have hlow := of_decide_eq_true c19
    rw [if_pos hlow] at hu1
    subst hu1
    refine gK ?_
    obtain ⟨hd0, qd0, fd0⟩ := hU.frz2 hP
    refine s_st (h1 := hd0) (r0 := .own 4 1 (bl (orB U P))) (A := orB U P) rfl (by simp only [go_sem, ↓reduceIte, Nat.reduceEqDiff, Nat.reduceAdd, Nat.reduceMul, Nat.reduceSub, Nat.reduceLT, Nat.reduceLeDiff, Int.reduceEq, Int.reduceLT, Int.reduceLE, Int.reduceNeg, Int.reduceAdd, Int.reduceSub, reduceCtorEq, e7, e6]; exact qd0) fd0 horh (.inr rfl) ?_
    intro vg hg hvg hkg
    have hUg := hU.kp hkg (by omega) (Nat.le_refl _)
    have hPg := hP.kp hkg (by omega) (Nat.le_refl _)
    clear hU hP qd0 fd0
    generalize hUu : orB U P = U' at *
    cases c24 : decide (high < 0) with
    | false =>
      have hcnt2 : high < 0 → low < ((j + 1 : Nat) : Int) → ((j + 1 : Nat) : Int) ≤ low + 1 + (U'.count true : Nat) := fun h => absurd h (of_decide_eq_false c24)
      clear r1 rc hcnt hsameh horh hUu
      cases c40 : decide ((j : Int) = high) with
      | true =>
        have hT := r2 (of_decide_eq_true c40)
        refine gK ?_
        rw [hT] at hvg
        exact fs_r (by simp only [RS]; rfl) eA hvg
      | false =>
        refine gK ?_
        refine s_c1 hPg (by simp only [go_sem, ↓reduceIte, Nat.reduceEqDiff, Nat.reduceAdd, Nat.reduceMul, Nat.reduceSub, Nat.reduceLT, Nat.reduceLeDiff, Int.reduceEq, Int.reduceLT, Int.reduceLE, Int.reduceNeg, Int.reduceAdd, Int.reduceSub, reduceCtorEq, e7]) rfl hsmh ?_
        cases hsp : some_ P with
        | false =>
          have hT := r3 hsp
          refine gK ?_
          rw [hT] at hvg
          exact fs_r (by simp only [RS]; rfl) eA hvg
        | true =>
          refine gK ?_
          obtain ⟨ha, qa, fa⟩ := hPg.frz
          refine s_stv (f := f) (caps := caps) (h1 := ha) (r0 := r0) eA rfl (by simp only [go_sem, ↓reduceIte, Nat.reduceEqDiff, Nat.reduceAdd, Nat.reduceMul, Nat.reduceSub, Nat.reduceLT, Nat.reduceLeDiff, Int.reduceEq, Int.reduceLT, Int.reduceLE, Int.reduceNeg, Int.reduceAdd, Int.reduceSub, reduceCtorEq, e7]; exact frz1 qa hok.im) fa hch hs ?_
          intro vb hbp hvb hkb
          have hUb := hvg.kp hkb (by omega) (Nat.le_refl _)
          have hPb := hPg.kp hkb (by omega) (Nat.le_refl _)
          refine gK ?_
          refine s_c2 hvb hPb eA (by simp only [go_sem, ↓reduceIte, Nat.reduceEqDiff, Nat.reduceAdd, Nat.reduceMul, Nat.reduceSub, Nat.reduceLT, Nat.reduceLeDiff, Int.reduceEq, Int.reduceLT, Int.reduceLE, Int.reduceNeg, Int.reduceAdd, Int.reduceSub, reduceCtorEq, e7]) rfl hsnh ?_
          cases hsq : decide (img n R P = P) with
          | true =>
            have hT := r4 (of_decide_eq_true hsq)
            refine gK ?_
            obtain ⟨hd, qd, fd⟩ := hUb.frz2 hPb
            refine s_st (h1 := hd) (r0 := .own 4 1 (bl (orB U' P))) (A := orB U' P) rfl (by simp only [go_sem, ↓reduceIte, Nat.reduceEqDiff, Nat.reduceAdd, Nat.reduceMul, Nat.reduceSub, Nat.reduceLT, Nat.reduceLeDiff, Int.reduceEq, Int.reduceLT, Int.reduceLE, Int.reduceNeg, Int.reduceAdd, Int.reduceSub, reduceCtorEq, e7, e6]; exact qd) fd hor' (.inr rfl) ?_
            intro vc hc2 hvc hkc
            refine gK ?_
            rw [hT] at hvc
            exact fs_r (by simp only [RS]; rfl) eA hvc
          | false =>
            refine gK ?_
            refine ⟨hjl, ?_, ?_, ?_, ?_, ?_, ?_, ?_, ?_⟩
            · simp only [go_sem, ↓reduceIte, Nat.reduceEqDiff, Nat.reduceAdd, Nat.reduceMul, Nat.reduceSub, Nat.reduceLT, Nat.reduceLeDiff, Int.reduceEq, Int.reduceLT, Int.reduceLE, Int.reduceNeg, Int.reduceAdd, Int.reduceSub, reduceCtorEq, *]
            · simp only [go_sem, ↓reduceIte, Nat.reduceEqDiff, Nat.reduceAdd, Nat.reduceMul, Nat.reduceSub, Nat.reduceLT, Nat.reduceLeDiff, Int.reduceEq, Int.reduceLT, Int.reduceLE, Int.reduceNeg, Int.reduceAdd, Int.reduceSub, reduceCtorEq, *]
            · simp only [go_sem, ↓reduceIte, Nat.reduceEqDiff, Nat.reduceAdd, Nat.reduceMul, Nat.reduceSub, Nat.reduceLT, Nat.reduceLeDiff, Int.reduceEq, Int.reduceLT, Int.reduceLE, Int.reduceNeg, Int.reduceAdd, Int.reduceSub, reduceCtorEq, *]
            · simp only [go_sem, ↓reduceIte, Nat.reduceEqDiff, Nat.reduceAdd, Nat.reduceMul, Nat.reduceSub, Nat.reduceLT, Nat.reduceLeDiff, Int.reduceEq, Int.reduceLT, Int.reduceLE, Int.reduceNeg, Int.reduceAdd, Int.reduceSub, reduceCtorEq, *]
            · simp only [go_sem, ↓reduceIte, Nat.reduceEqDiff, Nat.reduceAdd, Nat.reduceMul, Nat.reduceSub, Nat.reduceLT, Nat.reduceLeDiff, Int.reduceEq, Int.reduceLT, Int.reduceLE, Int.reduceNeg, Int.reduceAdd, Int.reduceSub, reduceCtorEq, e6]
              exact hUb.up (by (try simp only); omega)
            · simp only [go_sem, ↓reduceIte, Nat.reduceEqDiff, Nat.reduceAdd, Nat.reduceMul, Nat.reduceSub, Nat.reduceLT, Nat.reduceLeDiff, Int.reduceEq, Int.reduceLT, Int.reduceLE, Int.reduceNeg, Int.reduceAdd, Int.reduceSub, reduceCtorEq]
              exact hvb.up (by (try simp only); omega)
            · have := of_decide_eq_false c40
              omega
            · exact hcnt2
    | true =>
      cases c28 : decide (low < (j : Int)) with
      | false =>
        have hcnt2 : high < 0 → low < ((j + 1 : Nat) : Int) → ((j + 1 : Nat) : Int) ≤ low + 1 + (U'.count true : Nat) := by
          intro _ h
          have := of_decide_eq_false c28
          omega
        clear r1 rc hcnt hsameh horh hUu
        cases c40 : decide ((j : Int) = high) with
        | true =>
          have hT := r2 (of_decide_eq_true c40)
          refine gK ?_
          rw [hT] at hvg
          exact fs_r (by simp only [RS]; rfl) eA hvg
        | false =>
          refine gK ?_
          refine s_c1 hPg (by simp only [go_sem, ↓reduceIte, Nat.reduceEqDiff, Nat.reduceAdd, Nat.reduceMul, Nat.reduceSub, Nat.reduceLT, Nat.reduceLeDiff, Int.reduceEq, Int.reduceLT, Int.reduceLE, Int.reduceNeg, Int.reduceAdd, Int.reduceSub, reduceCtorEq, e7]) rfl hsmh ?_
          cases hsp : some_ P with
          | false =>
            have hT := r3 hsp
            refine gK ?_
            rw [hT] at hvg
            exact fs_r (by simp only [RS]; rfl) eA hvg
          | true =>
            refine gK ?_
            obtain ⟨ha, qa, fa⟩ := hPg.frz
            refine s_stv (f := f) (caps := caps) (h1 := ha) (r0 := r0) eA rfl (by simp only [go_sem, ↓reduceIte, Nat.reduceEqDiff, Nat.reduceAdd, Nat.reduceMul, Nat.reduceSub, Nat.reduceLT, Nat.reduceLeDiff, Int.reduceEq, Int.reduceLT, Int.reduceLE, Int.reduceNeg, Int.reduceAdd, Int.reduceSub, reduceCtorEq, e7]; exact frz1 qa hok.im) fa hch hs ?_
            intro vb hbp hvb hkb
            have hUb := hvg.kp hkb (by omega) (Nat.le_refl _)
            have hPb := hPg.kp hkb (by omega) (Nat.le_refl _)
            refine gK ?_
            refine s_c2 hvb hPb eA (by simp only [go_sem, ↓reduceIte, Nat.reduceEqDiff, Nat.reduceAdd, Nat.reduceMul, Nat.reduceSub, Nat.reduceLT, Nat.reduceLeDiff, Int.reduceEq, Int.reduceLT, Int.reduceLE, Int.reduceNeg, Int.reduceAdd, Int.reduceSub, reduceCtorEq, e7]) rfl hsnh ?_
            cases hsq : decide (img n R P = P) with
            | true =>
              have hT := r4 (of_decide_eq_true hsq)
              refine gK ?_
              obtain ⟨hd, qd, fd⟩ := hUb.frz2 hPb
              refine s_st (h1 := hd) (r0 := .own 4 1 (bl (orB U' P))) (A := orB U' P) rfl (by simp only [go_sem, ↓reduceIte, Nat.reduceEqDiff, Nat.reduceAdd, Nat.reduceMul, Nat.reduceSub, Nat.reduceLT, Nat.reduceLeDiff, Int.reduceEq, Int.reduceLT, Int.reduceLE, Int.reduceNeg, Int.reduceAdd, Int.reduceSub, reduceCtorEq, e7, e6]; exact qd) fd hor' (.inr rfl) ?_
              intro vc hc2 hvc hkc
              refine gK ?_
              rw [hT] at hvc
              exact fs_r (by simp only [RS]; rfl) eA hvc
            | false =>
              refine gK ?_
              refine ⟨hjl, ?_, ?_, ?_, ?_, ?_, ?_, ?_, ?_⟩
              · simp only [go_sem, ↓reduceIte, Nat.reduceEqDiff, Nat.reduceAdd, Nat.reduceMul, Nat.reduceSub, Nat.reduceLT, Nat.reduceLeDiff, Int.reduceEq, Int.reduceLT, Int.reduceLE, Int.reduceNeg, Int.reduceAdd, Int.reduceSub, reduceCtorEq, *]
              · simp only [go_sem, ↓reduceIte, Nat.reduceEqDiff, Nat.reduceAdd, Nat.reduceMul, Nat.reduceSub, Nat.reduceLT, Nat.reduceLeDiff, Int.reduceEq, Int.reduceLT, Int.reduceLE, Int.reduceNeg, Int.reduceAdd, Int.reduceSub, reduceCtorEq, *]
              · simp only [go_sem, ↓reduceIte, Nat.reduceEqDiff, Nat.reduceAdd, Nat.reduceMul, Nat.reduceSub, Nat.reduceLT, Nat.reduceLeDiff, Int.reduceEq, Int.reduceLT, Int.reduceLE, Int.reduceNeg, Int.reduceAdd, Int.reduceSub, reduceCtorEq, *]
              · simp only [go_sem, ↓reduceIte, Nat.reduceEqDiff, Nat.reduceAdd, Nat.reduceMul, Nat.reduceSub, Nat.reduceLT, Nat.reduceLeDiff, Int.reduceEq, Int.reduceLT, Int.reduceLE, Int.reduceNeg, Int.reduceAdd, Int.reduceSub, reduceCtorEq, *]
              · simp only [go_sem, ↓reduceIte, Nat.reduceEqDiff, Nat.reduceAdd, Nat.reduceMul, Nat.reduceSub, Nat.reduceLT, Nat.reduceLeDiff, Int.reduceEq, Int.reduceLT, Int.reduceLE, Int.reduceNeg, Int.reduceAdd, Int.reduceSub, reduceCtorEq, e6]
                exact hUb.up (by (try simp only); omega)
              · simp only [go_sem, ↓reduceIte, Nat.reduceEqDiff, Nat.reduceAdd, Nat.reduceMul, Nat.reduceSub, Nat.reduceLT, Nat.reduceLeDiff, Int.reduceEq, Int.reduceLT, Int.reduceLE, Int.reduceNeg, Int.reduceAdd, Int.reduceSub, reduceCtorEq]
                exact hvb.up (by (try simp only); omega)
              · have := of_decide_eq_false c40
                omega
              · exact hcnt2
      | true =>
        refine gK ?_
        refine s_c2 hvg hUg eA (by simp only [go_sem, ↓reduceIte, Nat.reduceEqDiff, Nat.reduceAdd, Nat.reduceMul, Nat.reduceSub, Nat.reduceLT, Nat.reduceLeDiff, Int.reduceEq, Int.reduceLT, Int.reduceLE, Int.reduceNeg, Int.reduceAdd, Int.reduceSub, reduceCtorEq, e6]) rfl hsameh ?_
        cases hsg : decide (U' = U) with
        | true =>
          have hT := r1 (of_decide_eq_true c24) (of_decide_eq_true c28) (of_decide_eq_true hsg)
          refine gK ?_
          rw [hT] at hUg
          exact fs_r (by simp only [RS]; rfl) eA hUg
        | false =>
          have hcnt2 : high < 0 → low < ((j + 1 : Nat) : Int) → ((j + 1 : Nat) : Int) ≤ low + 1 + (U'.count true : Nat) := by
            intro h1 h2
            have h3 := rc hlow (of_decide_eq_false hsg)
            have h4 := hcnt h1 (of_decide_eq_true c28)
            omega
          clear r1 rc hcnt hsameh horh hUu
          cases c40 : decide ((j : Int) = high) with
          | true =>
            have hT := r2 (of_decide_eq_true c40)
            refine gK ?_
            rw [hT] at hvg
            exact fs_r (by simp only [RS]; rfl) eA hvg
          | false =>
            refine gK ?_
            refine s_c1 hPg (by simp only [go_sem, ↓reduceIte, Nat.reduceEqDiff, Nat.reduceAdd, Nat.reduceMul, Nat.reduceSub, Nat.reduceLT, Nat.reduceLeDiff, Int.reduceEq, Int.reduceLT, Int.reduceLE, Int.reduceNeg, Int.reduceAdd, Int.reduceSub, reduceCtorEq, e7]) rfl hsmh ?_
            cases hsp : some_ P with
            | false =>
              have hT := r3 hsp
              refine gK ?_
              rw [hT] at hvg
              exact fs_r (by simp only [RS]; rfl) eA hvg
            | true =>
              refine gK ?_
              obtain ⟨ha, qa, fa⟩ := hPg.frz
              refine s_stv (f := f) (caps := caps) (h1 := ha) (r0 := r0) eA rfl (by simp only [go_sem, ↓reduceIte, Nat.reduceEqDiff, Nat.reduceAdd, Nat.reduceMul, Nat.reduceSub, Nat.reduceLT, Nat.reduceLeDiff, Int.reduceEq, Int.reduceLT, Int.reduceLE, Int.reduceNeg, Int.reduceAdd, Int.reduceSub, reduceCtorEq, e7]; exact frz1 qa hok.im) fa hch hs ?_
              intro vb hbp hvb hkb
              have hUb := hvg.kp hkb (by omega) (Nat.le_refl _)
              have hPb := hPg.kp hkb (by omega) (Nat.le_refl _)
              refine gK ?_
              refine s_c2 hvb hPb eA (by simp only [go_sem, ↓reduceIte, Nat.reduceEqDiff, Nat.reduceAdd, Nat.reduceMul, Nat.reduceSub, Nat.reduceLT, Nat.reduceLeDiff, Int.reduceEq, Int.reduceLT, Int.reduceLE, Int.reduceNeg, Int.reduceAdd, Int.reduceSub, reduceCtorEq, e7]) rfl hsnh ?_
              cases hsq : decide (img n R P = P) with
              | true =>
                have hT := r4 (of_decide_eq_true hsq)
                refine gK ?_
                obtain ⟨hd, qd, fd⟩ := hUb.frz2 hPb
                refine s_st (h1 := hd) (r0 := .own 4 1 (bl (orB U' P))) (A := orB U' P) rfl (by simp only [go_sem, ↓reduceIte, Nat.reduceEqDiff, Nat.reduceAdd, Nat.reduceMul, Nat.reduceSub, Nat.reduceLT, Nat.reduceLeDiff, Int.reduceEq, Int.reduceLT, Int.reduceLE, Int.reduceNeg, Int.reduceAdd, Int.reduceSub, reduceCtorEq, e7, e6]; exact qd) fd hor' (.inr rfl) ?_
                intro vc hc2 hvc hkc
                refine gK ?_
                rw [hT] at hvc
                exact fs_r (by simp only [RS]; rfl) eA hvc
              | false =>
                refine gK ?_
                refine ⟨hjl, ?_, ?_, ?_, ?_, ?_, ?_, ?_, ?_⟩
                · simp only [go_sem, ↓reduceIte, Nat.reduceEqDiff, Nat.reduceAdd, Nat.reduceMul, Nat.reduceSub, Nat.reduceLT, Nat.reduceLeDiff, Int.reduceEq, Int.reduceLT, Int.reduceLE, Int.reduceNeg, Int.reduceAdd, Int.reduceSub, reduceCtorEq, *]
                · simp only [go_sem, ↓reduceIte, Nat.reduceEqDiff, Nat.reduceAdd, Nat.reduceMul, Nat.reduceSub, Nat.reduceLT, Nat.reduceLeDiff, Int.reduceEq, Int.reduceLT, Int.reduceLE, Int.reduceNeg, Int.reduceAdd, Int.reduceSub, reduceCtorEq, *]
                · simp only [go_sem, ↓reduceIte, Nat.reduceEqDiff, Nat.reduceAdd, Nat.reduceMul, Nat.reduceSub, Nat.reduceLT, Nat.reduceLeDiff, Int.reduceEq, Int.reduceLT, Int.reduceLE, Int.reduceNeg, Int.reduceAdd, Int.reduceSub, reduceCtorEq, *]
                · simp only [go_sem, ↓reduceIte, Nat.reduceEqDiff, Nat.reduceAdd, Nat.reduceMul, Nat.reduceSub, Nat.reduceLT, Nat.reduceLeDiff, Int.reduceEq, Int.reduceLT, Int.reduceLE, Int.reduceNeg, Int.reduceAdd, Int.reduceSub, reduceCtorEq, *]
                · simp only [go_sem, ↓reduceIte, Nat.reduceEqDiff, Nat.reduceAdd, Nat.reduceMul, Nat.reduceSub, Nat.reduceLT, Nat.reduceLeDiff, Int.reduceEq, Int.reduceLT, Int.reduceLE, Int.reduceNeg, Int.reduceAdd, Int.reduceSub, reduceCtorEq, e6]
                  exact hUb.up (by (try simp only); omega)
                · simp only [go_sem, ↓reduceIte, Nat.reduceEqDiff, Nat.reduceAdd, Nat.reduceMul, Nat.reduceSub, Nat.reduceLT, Nat.reduceLeDiff, Int.reduceEq, Int.reduceLT, Int.reduceLE, Int.reduceNeg, Int.reduceAdd, Int.reduceSub, reduceCtorEq]
                  exact hvb.up (by (try simp only); omega)
                · have := of_decide_eq_false c40
                  omega
                · exact hcnt2
end Go.Proofs.Ytpdamhhaepcffaa.AE
/-
  regexec: compile.
-/
set_option linter.unusedVariables false
set_option linter.unusedSimpArgs false
set_option maxHeartbeats 8000000
set_option maxRecDepth 100000
namespace Go.Proofs.Ytpdamhhaepcffaa.AE
open Go
def rq (b : Bool) (xs : List (List D)) : D := if b then .nls else .isl xs
mutual
def Rx.cells : Rx → List D
  | .mk k z set mn mx subs => [.int .i64 k, rz z set, .int .i64 mn, .int .i64 mx, rq (z && subs.isEmpty) (Rx.rows subs)]
def Rx.rows : List Rx → List (List D)
  | [] => []
  | r :: q => r.cells :: Rx.rows q
end
theorem rows_at : ∀ (l : List Rx) (j : Nat), (Rx.rows l)[j]? = l[j]?.map Rx.cells
  | [], j => by simp [Rx.rows]
  | r :: q, 0 => by simp [Rx.rows]
  | r :: q, j + 1 => by simp [Rx.rows, rows_at q j]
theorem rows_len : ∀ l : List Rx, (Rx.rows l).length = l.length
  | [] => rfl
  | r :: q => by simp [Rx.rows, rows_len q]
/-- The parts; nil where z says so and there are none. -/
def rs (z : Bool) (l : List Rx) : D := rq (z && l.isEmpty) (Rx.rows l)
theorem rs_cases (z : Bool) (l : List Rx) : rs z l = .isl (Rx.rows l) ∨ (rs z l = .nls ∧ l = []) := by
  cases z with
  | false => exact .inl rfl
  | true => cases l with
    | nil => exact .inr ⟨rfl, rfl⟩
    | cons => exact .inl rfl
theorem rx_cells (k : Int) (z : Bool) (set : List (Int × Int)) (mn mx : Int) (subs : List Rx) : (Rx.mk k z set mn mx subs).cells = [.int .i64 k, rz z set, .int .i64 mn, .int .i64 mx, rs z subs] := by rw [Rx.cells]; rfl
attribute [go_sem] rows_at rows_len
theorem rs_elems (h : Hp) (z : Bool) (l : List Rx) : elems h (rs z l) = some (Rx.rows l) := by
  rcases rs_cases z l with e | ⟨e, rfl⟩ <;> rw [e] <;> rfl
theorem rs_frz (n : Nat) (h : Hp) (z : Bool) (l : List Rx) : frz (n + 1) h (rs z l) = some (rs z l, h) := by
  rcases rs_cases z l with e | ⟨e, rfl⟩ <;> rw [e] <;> rfl
theorem rs_cells (z : Bool) (l : List Rx) : D.cells (rs z l) = some [rs z l] := by
  rcases rs_cases z l with e | ⟨e, rfl⟩ <;> rw [e] <;> rfl
theorem rs_leaf (z : Bool) (l : List Rx) : D.leaf (rs z l) = true := by
  rcases rs_cases z l with e | ⟨e, rfl⟩ <;> rw [e] <;> rfl
theorem rs_im (z : Bool) (l : List Rx) : D.im (rs z l) = true := by
  rcases rs_cases z l with e | ⟨e, rfl⟩ <;> rw [e] <;> rfl
theorem rs_nm (z : Bool) (l : List Rx) : D.nm (rs z l) = [] := by
  rcases rs_cases z l with e | ⟨e, rfl⟩ <;> rw [e] <;> rfl
theorem cells5 (r : Rx) : r.cells.length = 5 := by cases r; rw [rx_cells]; rfl
theorem rs_ia (h : Hp) (z : Bool) (l : List Rx) (j : Nat) : iaD h 5 j (rs z l) = (l[j]?).bind fun x => some (.ipt x.cells 0, h) := by
  rcases rs_cases z l with e | ⟨e, rfl⟩
  · rw [e]
    simp only [iaD, rows_at]
    cases l[j]? with
    | none => rfl
    | some x => simp only [Option.map_some, Option.bind_some, cells5, if_true]
  · rw [e]; rfl
attribute [go_sem] rs_elems rs_frz rs_cells rs_leaf rs_im rs_nm rs_ia
theorem cells_im (r : Rx) : r.cells.all D.im = true := by cases r; rw [rx_cells]; simp only [List.all_cons, List.all_nil, rz_im, rs_im]; rfl
/-- Right, and of lists that can be. -/
inductive Rx.Ok : Rx → Prop
  | mk {k : Int} {z : Bool} {set : List (Int × Int)} {mn mx : Int} {subs : List Rx} (hk : 1 ≤ k ∧ k ≤ 7) (hs : set.length < 100000000000000) (hl : subs.length < 2000000000000)
      (hr : k = 4 → subs.length = 1 ∧ 0 ≤ mn ∧ mn ≤ 8 ∧ (mx = -1 ∨ (mn ≤ mx ∧ mx ≤ 8))) (h : ∀ r, r ∈ subs → Rx.Ok r) : Rx.Ok (.mk k z set mn mx subs)
theorem f44 (f : Nat) (caps : List D) (low high : Int) (hc : ∀ n h, frzL (frz (n + 1)) h caps = some (caps, h)) : callP (Lv xp md) 44 [.fn f caps, .int .i64 low, .int .i64 high] = some [.fn 57 [.ipt [.int .i64 low] 0, .ipt [.int .i64 high] 0, .ipt [.fn f caps] 0]] := by
  refine fn_v (F := F44) rfl ?_
  exact gD
theorem seq_eq (s : ByteArray) : ∀ (subs : List Rx) (A : List Bool), A.length = s.size + 1 → img (s.size + 1) (seqR s subs) A = seqI (s.size + 1) (subs.map fun r => r.R s) A
  | [], A, hA => by
    show img _ (seqR s []) A = A
    rw [show seqR s [] = fun i j => i = j by funext i j; rw [seqR]]
    exact img_id hA
  | r :: q, A, hA => by
    rw [show seqR s (r :: q) = cmp (r.R s) (seqR s q) by rw [seqR], img_cmp (Rx.wf s r) hA, seq_eq s q _ (img_len _ _ _)]
    rfl
theorem alt_fold {n : Nat} {A : List Bool} : ∀ (Rs : List Rl) (X : List Bool), X.length = n → ∀ j, On (Rs.foldl (fun X R => orB X (img n R A)) X) j ↔ On X j ∨ ∃ R ∈ Rs, On (img n R A) j
  | [], X, hX, j => by simp
  | R :: Rs, X, hX, j => by
    have hl : X.length = (img n R A).length := by rw [hX, img_len]
    rw [List.foldl_cons, alt_fold Rs (orB X (img n R A)) (by rw [orB_len hl, hX]) j, on_or hl]
    simp only [List.mem_cons, exists_eq_or_imp, or_assoc]
theorem alt_eq (s : ByteArray) (A : List Bool) : ∀ (subs : List Rx), img (s.size + 1) (altR s subs) A = altI (s.size + 1) (subs.map fun r => r.R s) A := by
  intro subs
  refine bext (by rw [img_len]; exact (altI_len _ _ (non_len _)).symm) fun j hj => ?_
  unfold altI
  rw [alt_fold _ _ (non_len _)]
  have : ∀ l : List Rx, On (img (s.size + 1) (altR s l) A) j ↔ ∃ R ∈ l.map (fun r => r.R s), On (img (s.size + 1) R A) j := by
    intro l
    induction l with
    | nil =>
      rw [show altR s [] = fun _ _ => False by funext i j; rw [altR], img_no]
      simp [on_non]
    | cons r q ih =>
      rw [show altR s (r :: q) = fun i j => r.R s i j ∨ altR s q i j by funext i j; rw [altR], img_or, on_or (by rw [img_len, img_len]), ih]
      simp
  rw [this]
  simp [on_non]
theorem rx_R1 {s : ByteArray} {z : Bool} {set : List (Int × Int)} {mn mx : Int} {subs : List Rx} : (Rx.mk 1 z set mn mx subs).R s = setR set s := by rw [Rx.R]; rfl
theorem rx_R2 {s : ByteArray} {z : Bool} {set : List (Int × Int)} {mn mx : Int} {subs : List Rx} : (Rx.mk 2 z set mn mx subs).R s = seqR s subs := by rw [Rx.R]; rfl
theorem rx_R3 {s : ByteArray} {z : Bool} {set : List (Int × Int)} {mn mx : Int} {subs : List Rx} : (Rx.mk 3 z set mn mx subs).R s = altR s subs := by rw [Rx.R]; rfl
theorem rx_R4 {s : ByteArray} {z : Bool} {set : List (Int × Int)} {mn mx : Int} {subs : List Rx} : (Rx.mk 4 z set mn mx subs).R s = rep (fstR s subs) mn mx := by rw [Rx.R]; rfl
theorem rx_R5 {s : ByteArray} {k : Int} {z : Bool} {set : List (Int × Int)} {mn mx : Int} {subs : List Rx} (h : 5 ≤ k) : (Rx.mk k z set mn mx subs).R s = stR k s := by
  rw [Rx.R, if_neg (by omega), if_neg (by omega), if_neg (by omega), if_neg (by omega)]
theorem step56 (s : ByteArray) (hs : s.size ≤ 500) (set : List (Int × Int)) : StepOk (s.size + 1) 56 [.ipt [.str s] 0, .ipt (cb (bytesOf set)) 0] (setR set s) := ⟨rfl, fun A hA => ⟨_, f56 s hs set A hA, .inr rfl⟩⟩
theorem step59 (s : ByteArray) (hs : s.size ≤ 500) (g : Nat) (k : Int) (hg : ∀ i : Nat, i ≤ s.size → callP (Lv xp md) g [.int .i64 i, .ipt [.str s] 0] = some [.bool (stands k s i)]) : StepOk (s.size + 1) 59 [.ipt [.fn g [.ipt [.str s] 0]] 0] (stR k s) :=
  ⟨rfl, fun A hA => ⟨_, f59 s hs g (stands k s) (stR k s) rfl hg A hA, .inr rfl⟩⟩
/-- What the parts compile to. -/
structure Parts (s : ByteArray) (subs : List Rx) (fs : List (Nat × List D)) : Prop where
  ok : StepsOk (s.size + 1) fs (subs.map fun r => r.R s)
  cl : ∀ (j : Nat) (x : Rx) (p : Nat × List D), subs[j]? = some x → fs[j]? = some p → callP (Lv xp md) 28 [.agg x.cells, .str s] = some [.fn p.1 p.2]
theorem Parts.len {s : ByteArray} {subs : List Rx} {fs : List (Nat × List D)} (h : Parts s subs fs) : fs.length = subs.length := by
  have := h.ok.len
  simpa using this
end Go.Proofs.Ytpdamhhaepcffaa.AE
/-
  regexec: compile.
-/
set_option linter.unusedVariables false
set_option linter.unusedSimpArgs false
set_option maxHeartbeats 8000000
set_option maxRecDepth 100000
namespace Go.Proofs.Ytpdamhhaepcffaa.AE
open Go
theorem parts_of (s : ByteArray) : ∀ (subs : List Rx), (∀ r ∈ subs, ∃ f caps, callP (Lv xp md) 28 [.agg r.cells, .str s] = some [.fn f caps] ∧ StepOk (s.size + 1) f caps (r.R s)) → ∃ fs, Parts s subs fs
  | [], _ => ⟨[], ⟨rfl, fun j p R h => by cases h⟩, fun j x p h => by cases h⟩
  | r :: q, h => by
    obtain ⟨f, caps, h1, h2⟩ := h r (by simp)
    obtain ⟨fs, ⟨hl, ha⟩, hc⟩ := parts_of s q (fun x hx => h x (by simp [hx]))
    refine ⟨(f, caps) :: fs, ⟨by simpa using hl, fun j p R hp hR => ?_⟩, fun j x p hx hp => ?_⟩
    · cases j with
      | zero =>
        simp at hp hR
        subst hp; subst hR
        exact h2
      | succ j => exact ha j p R (by simpa using hp) (by simpa using hR)
    · cases j with
      | zero =>
        simp at hx hp
        subst hx; subst hp
        exact h1
      | succ j => exact hc j x p (by simpa using hx) (by simpa using hp)
theorem fnr_app (fs : List (Nat × List D)) (p : Nat × List D) : fnr fs ++ [[.fn p.1 p.2]] = fnr (fs ++ [p]) := by simp [fnr]
theorem fnr_all (fs : List (Nat × List D)) : ((fnr fs).all fun y => decide (y.length = 1)) = true := by simp [fnr]
theorem own_lim2 {x : Nat} (h : x ≤ 2000000000000) : x + 1 ≤ 2199023255552 := by omega
/-- The loop over the parts. -/
theorem in28 {s : ByteArray} {re : Rx} {k0 : Int} {z : Bool} {set : List (Int × Int)} {mn mx : Int} {subs : List Rx} (hre : re.cells = [.int .i64 k0, rz z set, .int .i64 mn, .int .i64 mx, rs z subs]) {fs : List (Nat × List D)} (hp : Parts s subs fs) (hl : subs.length < 2000000000000) {e : Env} {h : Hp} {Q : Ex → St → Prop}
    (i2 : e 2 = .ptr 0 0 0) (i3 : e 3 = .ptr 8 0 0) (i5 : e 5 = .ptr 24 0 0) (i9 : e 9 = .int .i64 subs.length) (i10 : e 10 = .int .i64 (0 : Nat)) (b0 : h 0 = .var re.cells true) (b8 : h 8 = .var [.str s] true) (b24 : h 24 = .var [.nls] true)
    (hQ : ∀ (e' : Env) (h' : Hp) (k' : Nat) (ov : D), e' 2 = .ptr 0 0 0 → e' 3 = .ptr 8 0 0 → e' 5 = .ptr 24 0 0 → h' 0 = .var re.cells true → h' 8 = .var [.str s] true → h' 24 = .var [ov] true → OutX h' 64 k' 51 1 (fnr fs) ov → 64 ≤ k' → Q .nrm ⟨e', h', k'⟩) : Rn xp md (.loop L28_0) ⟨e, h, 64⟩ (Bk 0 Q) := by
  have hfl := hp.len
  refine rn_loop subs.length (fun j st => st.e 2 = .ptr 0 0 0 ∧ st.e 3 = .ptr 8 0 0 ∧ st.e 5 = .ptr 24 0 0 ∧ st.e 9 = .int .i64 subs.length ∧ st.e 10 = .int .i64 j ∧ st.h 0 = .var re.cells true ∧ st.h 8 = .var [.str s] true ∧ (∃ ov, st.h 24 = .var [ov] true ∧ OutX st.h 64 st.k 51 1 (fnr (fs.take j)) ov) ∧ 64 ≤ st.k) (j := 0) ⟨i2, i3, i5, i9, i10, b0, b8, ⟨.nls, b24, .inl ⟨rfl, rfl⟩⟩, Nat.le_refl _⟩ (Nat.zero_le _) ?_
  clear i2 i3 i5 i9 i10 b0 b8 b24 e h
  rintro j ⟨e, h, k⟩ hj ⟨i2, i3, i5, i9, i10, b0, b8, ⟨ov, b24, hv⟩, ik⟩
  dsimp only at i2 i3 i5 i9 i10 b0 b8 b24 hv ik
  have n1 : ∀ c, c < 64 → (c = k) = False := fun c hc => by simp; omega
  have n2 : ∀ c, c < 64 → (k = c) = False := fun c hc => by simp; omega
  rcases nextC hj with ⟨hlt, c1⟩ | ⟨rfl, c1⟩
  · obtain ⟨x, hx⟩ := at_lt hlt
    obtain ⟨p, hpj⟩ := at_lt (show j < fs.length by omega)
    have w1 := inc64 j (by omega)
    have s28 := hp.cl j x p hx hpj
    have hst := hp.ok.at_ j p (x.R s) hpj (by rw [List.getElem?_map, hx]; rfl)
    have him := hst.im
    have hfz : ∀ n h, frzL (frz (n + 1)) h p.2 = some (p.2, h) := fun n h => frzL_imG n him
    have hxl := cells5 x
    have hxi := cells_im x
    have hxt : List.take 5 x.cells = x.cells := List.take_of_length_le (by omega)
    have hxf : ∀ n h, frzL (frz (n + 1)) h x.cells = some (x.cells, h) := fun n h => frzL_imG n hxi
    have hxl5 : 5 ≤ x.cells.length ∧ x.cells.length ≤ 5 := by omega
    have u1 := fnr_all (fs.take j)
    have u2 := own_lim2 (x := (fs.take j).length)
    have u3 : fnr (fs.take j) ++ [[D.fn p.1 p.2]] = fnr (fs.take (j + 1)) := by rw [fnr_app, List.take_add_one, hpj]; rfl
    have u3h : Hid (fnr (fs.take j) ++ [[D.fn p.1 p.2]] = fnr (fs.take (j + 1))) := u3
    have u4 := fnr_len (fs.take j)
    have u5 : (fs.take j).length ≤ j := by simp; omega
    clear u3 hst hp
    generalize fs.take j = O at *
    generalize fs.take (j + 1) = O' at *
    rcases hv with ⟨hO, rfl⟩ | ⟨o, rfl, o1, o2, ho, hne⟩
    · rw [hre] at b0
      clear u2
      rw [hO] at u3h
      refine gK ?_
      refine ⟨hlt, ?_, ?_, ?_, ?_, ?_, ?_, ?_, ⟨.osl (k + 96), ?_, .inr ⟨k + 96, rfl, by omega, by simp only; omega, ?_, ?_⟩⟩, ?_⟩
      · simp only [go_sem, ↓reduceIte, Nat.reduceEqDiff, Nat.reduceAdd, Nat.reduceMul, Nat.reduceSub, Nat.reduceLT, Nat.reduceLeDiff, Int.reduceEq, Int.reduceLT, Int.reduceLE, Int.reduceNeg, Int.reduceAdd, Int.reduceSub, reduceCtorEq, *]
      · simp only [go_sem, ↓reduceIte, Nat.reduceEqDiff, Nat.reduceAdd, Nat.reduceMul, Nat.reduceSub, Nat.reduceLT, Nat.reduceLeDiff, Int.reduceEq, Int.reduceLT, Int.reduceLE, Int.reduceNeg, Int.reduceAdd, Int.reduceSub, reduceCtorEq, *]
      · simp only [go_sem, ↓reduceIte, Nat.reduceEqDiff, Nat.reduceAdd, Nat.reduceMul, Nat.reduceSub, Nat.reduceLT, Nat.reduceLeDiff, Int.reduceEq, Int.reduceLT, Int.reduceLE, Int.reduceNeg, Int.reduceAdd, Int.reduceSub, reduceCtorEq, *]
      · simp only [go_sem, ↓reduceIte, Nat.reduceEqDiff, Nat.reduceAdd, Nat.reduceMul, Nat.reduceSub, Nat.reduceLT, Nat.reduceLeDiff, Int.reduceEq, Int.reduceLT, Int.reduceLE, Int.reduceNeg, Int.reduceAdd, Int.reduceSub, reduceCtorEq, *]
      · simp only [go_sem, ↓reduceIte, Nat.reduceEqDiff, Nat.reduceAdd, Nat.reduceMul, Nat.reduceSub, Nat.reduceLT, Nat.reduceLeDiff, Int.reduceEq, Int.reduceLT, Int.reduceLE, Int.reduceNeg, Int.reduceAdd, Int.reduceSub, reduceCtorEq, *]
      · rw [hre]
        simp only [go_sem, ↓reduceIte, Nat.reduceEqDiff, Nat.reduceAdd, Nat.reduceMul, Nat.reduceSub, Nat.reduceLT, Nat.reduceLeDiff, Int.reduceEq, Int.reduceLT, Int.reduceLE, Int.reduceNeg, Int.reduceAdd, Int.reduceSub, reduceCtorEq, *]
      · simp only [go_sem, ↓reduceIte, Nat.reduceEqDiff, Nat.reduceAdd, Nat.reduceMul, Nat.reduceSub, Nat.reduceLT, Nat.reduceLeDiff, Int.reduceEq, Int.reduceLT, Int.reduceLE, Int.reduceNeg, Int.reduceAdd, Int.reduceSub, reduceCtorEq, *]
      · simp only [go_sem, ↓reduceIte, Nat.reduceEqDiff, Nat.reduceAdd, Nat.reduceMul, Nat.reduceSub, Nat.reduceLT, Nat.reduceLeDiff, Int.reduceEq, Int.reduceLT, Int.reduceLE, Int.reduceNeg, Int.reduceAdd, Int.reduceSub, reduceCtorEq, *]
      · simp only [go_sem, ↓reduceIte, Nat.reduceEqDiff, Nat.reduceAdd, Nat.reduceMul, Nat.reduceSub, Nat.reduceLT, Nat.reduceLeDiff, Int.reduceEq, Int.reduceLT, Int.reduceLE, Int.reduceNeg, Int.reduceAdd, Int.reduceSub, reduceCtorEq]
        rw [← show _ = fnr O' from u3h]
        try rfl
      · rw [← show _ = fnr O' from u3h]
        simp
      · simp only; omega
    · rw [hre] at b0
      have u2' := u2 (by omega)
      clear u2
      have m1o : ∀ c, c < 64 → (c = o) = False := fun c hc => by simp; omega
      have m2o : ∀ c, c < 64 → (o = c) = False := fun c hc => by simp; omega
      have m3o : ∀ c, (o = k + c) = False := fun c => by simp; omega
      have m4o : ∀ c, (k + c = o) = False := fun c => by simp; omega
      have m5o : (o = k) = False := by simp; omega
      have m6o : (k = o) = False := by simp; omega
      refine gK ?_
      refine ⟨hlt, ?_, ?_, ?_, ?_, ?_, ?_, ?_, ⟨.osl (k + 96), ?_, .inr ⟨k + 96, rfl, by omega, by simp only; omega, ?_, ?_⟩⟩, ?_⟩
      · simp only [go_sem, ↓reduceIte, Nat.reduceEqDiff, Nat.reduceAdd, Nat.reduceMul, Nat.reduceSub, Nat.reduceLT, Nat.reduceLeDiff, Int.reduceEq, Int.reduceLT, Int.reduceLE, Int.reduceNeg, Int.reduceAdd, Int.reduceSub, reduceCtorEq, *]
      · simp only [go_sem, ↓reduceIte, Nat.reduceEqDiff, Nat.reduceAdd, Nat.reduceMul, Nat.reduceSub, Nat.reduceLT, Nat.reduceLeDiff, Int.reduceEq, Int.reduceLT, Int.reduceLE, Int.reduceNeg, Int.reduceAdd, Int.reduceSub, reduceCtorEq, *]
      · simp only [go_sem, ↓reduceIte, Nat.reduceEqDiff, Nat.reduceAdd, Nat.reduceMul, Nat.reduceSub, Nat.reduceLT, Nat.reduceLeDiff, Int.reduceEq, Int.reduceLT, Int.reduceLE, Int.reduceNeg, Int.reduceAdd, Int.reduceSub, reduceCtorEq, *]
      · simp only [go_sem, ↓reduceIte, Nat.reduceEqDiff, Nat.reduceAdd, Nat.reduceMul, Nat.reduceSub, Nat.reduceLT, Nat.reduceLeDiff, Int.reduceEq, Int.reduceLT, Int.reduceLE, Int.reduceNeg, Int.reduceAdd, Int.reduceSub, reduceCtorEq, *]
      · simp only [go_sem, ↓reduceIte, Nat.reduceEqDiff, Nat.reduceAdd, Nat.reduceMul, Nat.reduceSub, Nat.reduceLT, Nat.reduceLeDiff, Int.reduceEq, Int.reduceLT, Int.reduceLE, Int.reduceNeg, Int.reduceAdd, Int.reduceSub, reduceCtorEq, *]
      · rw [hre]
        simp only [go_sem, ↓reduceIte, Nat.reduceEqDiff, Nat.reduceAdd, Nat.reduceMul, Nat.reduceSub, Nat.reduceLT, Nat.reduceLeDiff, Int.reduceEq, Int.reduceLT, Int.reduceLE, Int.reduceNeg, Int.reduceAdd, Int.reduceSub, reduceCtorEq, *]
      · simp only [go_sem, ↓reduceIte, Nat.reduceEqDiff, Nat.reduceAdd, Nat.reduceMul, Nat.reduceSub, Nat.reduceLT, Nat.reduceLeDiff, Int.reduceEq, Int.reduceLT, Int.reduceLE, Int.reduceNeg, Int.reduceAdd, Int.reduceSub, reduceCtorEq, *]
      · simp only [go_sem, ↓reduceIte, Nat.reduceEqDiff, Nat.reduceAdd, Nat.reduceMul, Nat.reduceSub, Nat.reduceLT, Nat.reduceLeDiff, Int.reduceEq, Int.reduceLT, Int.reduceLE, Int.reduceNeg, Int.reduceAdd, Int.reduceSub, reduceCtorEq, *]
      · simp only [go_sem, ↓reduceIte, Nat.reduceEqDiff, Nat.reduceAdd, Nat.reduceMul, Nat.reduceSub, Nat.reduceLT, Nat.reduceLeDiff, Int.reduceEq, Int.reduceLT, Int.reduceLE, Int.reduceNeg, Int.reduceAdd, Int.reduceSub, reduceCtorEq]
        rw [← show _ = fnr O' from u3h]
        try rfl
      · rw [← show _ = fnr O' from u3h]
        simp
      · simp only; omega
  · have hta : fs.take subs.length = fs := List.take_of_length_le (by omega)
    rw [hta] at hv
    refine gK ?_
    refine hQ _ _ _ ov ?_ ?_ ?_ ?_ ?_ ?_ (hv.up (by omega)) (by omega)
    all_goals simp only [go_sem, ↓reduceIte, Nat.reduceEqDiff, Nat.reduceAdd, Nat.reduceMul, Nat.reduceSub, Nat.reduceLT, Nat.reduceLeDiff, Int.reduceEq, Int.reduceLT, Int.reduceLE, Int.reduceNeg, Int.reduceAdd, Int.reduceSub, reduceCtorEq, *]
theorem f28 (s : ByteArray) (hs : s.size ≤ 500) : ∀ r : Rx, Rx.Ok r → ∃ f caps, callP (Lv xp md) 28 [.agg r.cells, .str s] = some [.fn f caps] ∧ StepOk (s.size + 1) f caps (r.R s) := by
  intro r hr
  induction hr with
  | @mk k0 z set mn mx subs hk hset hl hrep hsub ih =>
    obtain ⟨fs, hp⟩ := parts_of s subs ih
    have hlen := hp.len
    have hre := rx_cells k0 z set mn mx subs
    have key : ∀ (f : Nat) (caps : List D), StepOk (s.size + 1) f caps ((Rx.mk k0 z set mn mx subs).R s) → callP (Lv xp md) 28 [.agg (Rx.mk k0 z set mn mx subs).cells, .str s] = some [.fn f caps] → ∃ f caps, callP (Lv xp md) 28 [.agg (Rx.mk k0 z set mn mx subs).cells, .str s] = some [.fn f caps] ∧ StepOk (s.size + 1) f caps ((Rx.mk k0 z set mn mx subs).R s) := fun f caps h1 h2 => ⟨f, caps, h2, h1⟩
    rcases (by omega : k0 = 1 ∨ k0 = 2 ∨ k0 = 3 ∨ k0 = 4 ∨ k0 = 5 ∨ k0 = 6 ∨ k0 = 7) with rfl | rfl | rfl | rfl | rfl | rfl | rfl
    · refine key _ _ (by rw [rx_R1]; exact step56 s hs set) ?_
      rw [hre]
      have s40 := f40 z set s hset
      refine fn_v (F := F28) rfl ?_
      generalize cb (bytesOf set) = M at *
      refine gK ?_
      refine in28 hre hp hl eA eA eA eA eB (by simp only [go_sem, ↓reduceIte, Nat.reduceEqDiff, Nat.reduceAdd, Nat.reduceMul, Nat.reduceSub, Nat.reduceLT, Nat.reduceLeDiff, Int.reduceEq, Int.reduceLT, Int.reduceLE, Int.reduceNeg, Int.reduceAdd, Int.reduceSub, reduceCtorEq, hre]) eA eA ?_
      intro e' h' k' ov e2 e3 e5 b0 b8 b24 hv ik
      rw [hre] at b0
      clear key ih hp
      have n1k' : ∀ c, c < 64 → (c = k') = False := fun c hc => by simp; omega
      have n2k' : ∀ c, c < 64 → (k' = c) = False := fun c hc => by simp; omega
      exact gD
    · have hV : FnV (if fs.isEmpty then D.nls else .isl (fnr fs)) fs := by
        cases fs with
        | nil => exact .inr ⟨rfl, rfl⟩
        | cons a q => exact .inl rfl
      have hVn : fnr fs = [] → (if fs.isEmpty then D.nls else .isl (fnr fs)) = .nls := by
        intro h
        cases fs with
        | nil => rfl
        | cons a q => cases h
      have hVi : fnr fs ≠ [] → (if fs.isEmpty then D.nls else .isl (fnr fs)) = .isl (fnr fs) := by
        intro h
        cases fs with
        | nil => exact absurd rfl h
        | cons a q => rfl
      generalize (if fs.isEmpty then D.nls else .isl (fnr fs)) = v at *
      refine key 41 [.ipt [v] 0] ⟨rfl, fun A hA => ?_⟩ ?_
      · obtain ⟨r, h1, h2⟩ := f41 hV hp.ok (by omega) A hA
        exact ⟨r, h1, by rw [rx_R2, seq_eq s subs A hA]; exact h2⟩
      rw [hre]
      refine fn_v (F := F28) rfl ?_
      refine gK ?_
      refine in28 hre hp hl eA eA eA eA eB (by simp only [go_sem, ↓reduceIte, Nat.reduceEqDiff, Nat.reduceAdd, Nat.reduceMul, Nat.reduceSub, Nat.reduceLT, Nat.reduceLeDiff, Int.reduceEq, Int.reduceLT, Int.reduceLE, Int.reduceNeg, Int.reduceAdd, Int.reduceSub, reduceCtorEq, hre]) eA eA ?_
      intro e' h' k' ov e2 e3 e5 b0 b8 b24 hv ik
      rw [hre] at b0
      clear key ih hp
      have n1k' : ∀ c, c < 64 → (c = k') = False := fun c hc => by simp; omega
      have n2k' : ∀ c, c < 64 → (k' = c) = False := fun c hc => by simp; omega
      rcases hv with ⟨hO, rfl⟩ | ⟨o, rfl, o1, o2, ho, hne⟩
      · rw [hVn hO]
        clear hVi hVn hV hO
        exact gD
      · rw [hVi hne]
        have m1o : ∀ c, c < 64 → (c = o) = False := fun c hc => by simp; omega
        have m2o : ∀ c, c < 64 → (o = c) = False := fun c hc => by simp; omega
        have m3o : ∀ c, (o = k' + c) = False := fun c => by simp; omega
        have m4o : ∀ c, (k' + c = o) = False := fun c => by simp; omega
        have m5o : (o = k') = False := by simp; omega
        have m6o : (k' = o) = False := by simp; omega
        clear hVi hVn hV hne
        exact gD
    · have hV : FnV (if fs.isEmpty then D.nls else .isl (fnr fs)) fs := by
        cases fs with
        | nil => exact .inr ⟨rfl, rfl⟩
        | cons a q => exact .inl rfl
      have hVn : fnr fs = [] → (if fs.isEmpty then D.nls else .isl (fnr fs)) = .nls := by
        intro h
        cases fs with
        | nil => rfl
        | cons a q => cases h
      have hVi : fnr fs ≠ [] → (if fs.isEmpty then D.nls else .isl (fnr fs)) = .isl (fnr fs) := by
        intro h
        cases fs with
        | nil => exact absurd rfl h
        | cons a q => rfl
      generalize (if fs.isEmpty then D.nls else .isl (fnr fs)) = v at *
      refine key 42 [.ipt [v] 0] ⟨rfl, fun A hA => ?_⟩ ?_
      · obtain ⟨r, h1, h2⟩ := f42 hV (by omega) hp.ok (by omega) A hA
        exact ⟨r, h1, by rw [rx_R3, alt_eq s A subs]; exact h2⟩
      rw [hre]
      refine fn_v (F := F28) rfl ?_
      refine gK ?_
      refine in28 hre hp hl eA eA eA eA eB (by simp only [go_sem, ↓reduceIte, Nat.reduceEqDiff, Nat.reduceAdd, Nat.reduceMul, Nat.reduceSub, Nat.reduceLT, Nat.reduceLeDiff, Int.reduceEq, Int.reduceLT, Int.reduceLE, Int.reduceNeg, Int.reduceAdd, Int.reduceSub, reduceCtorEq, hre]) eA eA ?_
      intro e' h' k' ov e2 e3 e5 b0 b8 b24 hv ik
      rw [hre] at b0
      clear key ih hp
      have n1k' : ∀ c, c < 64 → (c = k') = False := fun c hc => by simp; omega
      have n2k' : ∀ c, c < 64 → (k' = c) = False := fun c hc => by simp; omega
      rcases hv with ⟨hO, rfl⟩ | ⟨o, rfl, o1, o2, ho, hne⟩
      · rw [hVn hO]
        clear hVi hVn hV hO
        exact gD
      · rw [hVi hne]
        have m1o : ∀ c, c < 64 → (c = o) = False := fun c hc => by simp; omega
        have m2o : ∀ c, c < 64 → (o = c) = False := fun c hc => by simp; omega
        have m3o : ∀ c, (o = k' + c) = False := fun c => by simp; omega
        have m4o : ∀ c, (k' + c = o) = False := fun c => by simp; omega
        have m5o : (o = k') = False := by simp; omega
        have m6o : (k' = o) = False := by simp; omega
        clear hVi hVn hV hne
        exact gD
    · obtain ⟨h1, h2, h3, h4⟩ := hrep rfl
      obtain ⟨x, rfl⟩ : ∃ x, subs = [x] := by
        match subs, h1 with
        | [x], _ => exact ⟨x, rfl⟩
      obtain ⟨p, rfl⟩ : ∃ p, fs = [p] := by
        match fs, hlen with
        | [p], _ => exact ⟨p, rfl⟩
      have hst := hp.ok.at_ 0 p (x.R s) rfl rfl
      have hR : (Rx.mk 4 z set mn mx [x]).R s = rep (x.R s) mn mx := by
        rw [rx_R4]
        congr 1
      have hfz : ∀ n h, frzL (frz (n + 1)) h p.2 = some (p.2, h) := fun n h => frzL_imG n hst.im
      have him := hst.im
      refine key 57 [.ipt [.int .i64 mn] 0, .ipt [.int .i64 mx] 0, .ipt [.fn p.1 p.2] 0] ⟨rfl, fun A hA => ?_⟩ ?_
      · rw [hR]
        exact f57 (by omega) (Rx.wf s x) hst mn mx (by omega) (by omega) A hA
      rw [hre]
      have s44 := f44 p.1 p.2 mn mx hfz
      have hfr : fnr [p] = [[.fn p.1 p.2]] := rfl
      refine fn_v (F := F28) rfl ?_
      clear hst hR
      refine gK ?_
      refine in28 hre hp hl eA eA eA eA eB (by simp only [go_sem, ↓reduceIte, Nat.reduceEqDiff, Nat.reduceAdd, Nat.reduceMul, Nat.reduceSub, Nat.reduceLT, Nat.reduceLeDiff, Int.reduceEq, Int.reduceLT, Int.reduceLE, Int.reduceNeg, Int.reduceAdd, Int.reduceSub, reduceCtorEq, hre]) eA eA ?_
      intro e' h' k' ov e2 e3 e5 b0 b8 b24 hv ik
      rw [hre] at b0
      clear key ih hp
      have n1k' : ∀ c, c < 64 → (c = k') = False := fun c hc => by simp; omega
      have n2k' : ∀ c, c < 64 → (k' = c) = False := fun c hc => by simp; omega
      rw [hfr] at hv
      rcases hv with ⟨hO, rfl⟩ | ⟨o, rfl, o1, o2, ho, hne⟩
      · cases hO
      · skip
        have m1o : ∀ c, c < 64 → (c = o) = False := fun c hc => by simp; omega
        have m2o : ∀ c, c < 64 → (o = c) = False := fun c hc => by simp; omega
        have m3o : ∀ c, (o = k' + c) = False := fun c => by simp; omega
        have m4o : ∀ c, (k' + c = o) = False := fun c => by simp; omega
        have m5o : (o = k') = False := by simp; omega
        have m6o : (k' = o) = False := by simp; omega
        clear hfr hne
        exact gD
    · refine key _ _ (by rw [rx_R5 (by omega)]; exact step59 s hs 46 5 (fun i hi => f46 s i hi (by omega))) ?_
      rw [hre]
      have s45 := f45 s 46
      refine fn_v (F := F28) rfl ?_
      refine gK ?_
      refine in28 hre hp hl eA eA eA eA eB (by simp only [go_sem, ↓reduceIte, Nat.reduceEqDiff, Nat.reduceAdd, Nat.reduceMul, Nat.reduceSub, Nat.reduceLT, Nat.reduceLeDiff, Int.reduceEq, Int.reduceLT, Int.reduceLE, Int.reduceNeg, Int.reduceAdd, Int.reduceSub, reduceCtorEq, hre]) eA eA ?_
      intro e' h' k' ov e2 e3 e5 b0 b8 b24 hv ik
      rw [hre] at b0
      clear key ih hp
      have n1k' : ∀ c, c < 64 → (c = k') = False := fun c hc => by simp; omega
      have n2k' : ∀ c, c < 64 → (k' = c) = False := fun c hc => by simp; omega
      clear hv b24
      exact gD
    · refine key _ _ (by rw [rx_R5 (by omega)]; exact step59 s hs 47 6 (fun i hi => f47 s i hi (by omega))) ?_
      rw [hre]
      have s45 := f45 s 47
      refine fn_v (F := F28) rfl ?_
      refine gK ?_
      refine in28 hre hp hl eA eA eA eA eB (by simp only [go_sem, ↓reduceIte, Nat.reduceEqDiff, Nat.reduceAdd, Nat.reduceMul, Nat.reduceSub, Nat.reduceLT, Nat.reduceLeDiff, Int.reduceEq, Int.reduceLT, Int.reduceLE, Int.reduceNeg, Int.reduceAdd, Int.reduceSub, reduceCtorEq, hre]) eA eA ?_
      intro e' h' k' ov e2 e3 e5 b0 b8 b24 hv ik
      rw [hre] at b0
      clear key ih hp
      have n1k' : ∀ c, c < 64 → (c = k') = False := fun c hc => by simp; omega
      have n2k' : ∀ c, c < 64 → (k' = c) = False := fun c hc => by simp; omega
      clear hv b24
      exact gD
    · refine key _ _ (by rw [rx_R5 (by omega)]; exact step59 s hs 48 7 (fun i hi => f48 s i hi (by omega))) ?_
      rw [hre]
      have s45 := f45 s 48
      refine fn_v (F := F28) rfl ?_
      refine gK ?_
      refine in28 hre hp hl eA eA eA eA eB (by simp only [go_sem, ↓reduceIte, Nat.reduceEqDiff, Nat.reduceAdd, Nat.reduceMul, Nat.reduceSub, Nat.reduceLT, Nat.reduceLeDiff, Int.reduceEq, Int.reduceLT, Int.reduceLE, Int.reduceNeg, Int.reduceAdd, Int.reduceSub, reduceCtorEq, hre]) eA eA ?_
      intro e' h' k' ov e2 e3 e5 b0 b8 b24 hv ik
      rw [hre] at b0
      clear key ih hp
      have n1k' : ∀ c, c < 64 → (c = k') = False := fun c hc => by simp; omega
      have n2k' : ∀ c, c < 64 → (k' = c) = False := fun c hc => by simp; omega
      clear hv b24
      exact gD
end Go.Proofs.Ytpdamhhaepcffaa.AE
