-- Written by this session's program hprint.py over the kit's print. Not trusted: Lean checks it.
import Derived.Test.YtbahkbnkbhhcdaaPAllx0
import Derived.Lib.Hide
import Derived.Maps.RangeWalk
import Derived.Maps.Views
import Derived.Outline
import Derived.RangeFuncRecord
import Derived.Shelf.SlSortCmp.NoneTotal
import Derived.Shelf.Small.Strs
import Derived.Shelf.Spec.SlicesGrow
import Derived.Sort.Grow
import Derived.StringKeys
import Derived.Test.YtbahkbnkbhhcdaaShelf
namespace Go.Proofs.Ytbahkbnkbhhcdaa.PAll
open Go.RowKit Go.Proofs.YtbahkbnkbhhcdaaW.PrintWords Go.Proofs.YtbahkbnkbhhcdaaW.PrintLast Go.Proofs.YtbahkbnkbhhcdaaW.PrintMore
attribute [local go_sem] max2_int min2_int max_two min_two max_three min_three max_four min_four   -- for this text's walks alone
set_option linter.unusedVariables false
set_option linter.unusedSimpArgs false

--HAND usage_merge.tpl
--HANDIMPORT Derived.Lib.Hide
--HANDIMPORT Derived.Maps.RangeWalk
--HANDIMPORT Derived.Maps.Views
--HANDIMPORT Derived.Outline
--HANDIMPORT Derived.RangeFuncRecord
--HANDIMPORT Derived.Shelf.SlSortCmp.NoneTotal
--HANDIMPORT Derived.Shelf.Small.Strs
--HANDIMPORT Derived.Shelf.Spec.SlicesGrow
--HANDIMPORT Derived.Sort.Grow
--HANDIMPORT Derived.StringKeys
--HANDIMPORT Derived.Test.YtbahkbnkbhhcdaaShelf

/-! ### usage_Merge: function 29 -/
theorem grow_nil_calls (n : Nat) (w : World) (hn : n ≤ 4398046511104) : Calls Try.prog 47 #[.slice none 0 0, .int .i64 (n : Int)] w fun e w' => ∃ v, e = .returned v ∧ Kd.R k34 34 w' w.heap.size (fun _ => True) v [] ∧ Below w.heap.size w w' := by
  by_cases h0 : n = 0
  · subst h0
    refine (Any8.slices_Grow_room Try.growC none 0 0 0 w (by omega) (by omega) (by omega) (by omega)).mono ?_
    rintro e w' ⟨rfl, rfl⟩
    exact ⟨_, rfl, Kd.R_nil _ _ _ _ _, Below.refl _ _⟩
  · obtain ⟨i0, hi, hzz⟩ := Option.map_eq_some_iff.1 info34
    simp only [Prod.mk.injEq] at hzz
    obtain ⟨hz0, hz1, hz2⟩ := hzz
    have hG := grownCap_le_maxLen w n 0 34 (by simp only [maxLen]; omega)
    have hge := grownCap_ge w n 0 34
    refine (Any8.slices_Grow_grow Try.growC i0 _ hi hz0 (by omega) none 0 0 n [] w (by omega) (by omega) (by rw [hz2]; omega) (by omega) (by simp) (fun _ => rfl) (fun a h => by cases h)).mono ?_
    rintro e w' ⟨rfl, rfl⟩
    simp only [Nat.zero_add]
    refine ⟨_, rfl, ⟨fun _ _ => trivial, [], ⟨rfl, .inr ⟨w.heap.size, grownCap w n 0 34, _, rfl, Nat.le_refl _, World.alloc_heap_new w.drew _, Nat.zero_le _, hG, ?_, rfl⟩⟩, rfl, fun j p hj => by simp at hj⟩, (below_drew (Below.refl _ _)).alloc (Nat.le_refl _) _⟩
    show _ = grownCap w n 0 34 * 3
    have hz : (Value.agg #[Value.string ⟨#[]⟩, Value.int .i64 0, Value.int .i64 0]).cells.size = 3 := rfl
    have e40 : Try.growC_ren.t 25 = 34 := rfl
    simp [Builtin.zeroCells, hz, e40]
    omega
set_option maxRecDepth 100000 in
set_option maxHeartbeats 4000000 in
theorem concat_calls (b T : Nat) (A B : Option Addr) (ca cb : Nat) (la lb : List S34) (w : World) (hb : w.heap[b]? = some (.cells #[.slice A la.length ca, .slice B lb.length cb] T (0, 0)))
    (hA : Kd.C k34 w A la.length la) (hB : Kd.C k34 w B lb.length lb) (hca : la.length ≤ ca) (hcb : lb.length ≤ cb) (hl : la.length ≤ 1099511627776) (hl2 : lb.length ≤ 1099511627776) :
    Calls Try.prog 41 #[.slice (some ⟨b, 0, none⟩) 2 2] w fun e w' => ∃ v, e = .returned v ∧ Kd.R k34 34 w' w.heap.size (fun _ => True) v (la ++ lb) ∧ Below w.heap.size w w' := by
  have hc0 : w.cell? ⟨b, 0, none⟩ = some (.slice A la.length ca) := blk_cell hb 0
  have hc1 : w.cell? ⟨b, 1, none⟩ = some (.slice B lb.length cb) := blk_cell hb 1
  have hw1 : wrap64 (la.length : Int) = (la.length : Int) := by unfold wrap64; omega
  have hw2 : wrap64 ((la.length : Int) + (lb.length : Int)) = ((la.length + lb.length : Nat) : Int) := by unfold wrap64; omega
  have hn1 : ¬ ((la.length : Int) < 0) := by omega
  have hn2 : ¬ (((la.length + lb.length : Nat) : Int) < 0) := by omega
  have HB := Lib.hid hb; clear hb
  have HA := Lib.hid hA; clear hA
  have HBB := Lib.hid hB; clear hB
  go_enter Try.func41, Try.ntmps41
  go_wp2
  refine wp_loop_rounds 3 ?_
  rw [rounds_succ]
  go_wp2
  rw [rounds_succ]
  go_wp2
  rw [rounds_succ]
  go_wp2_with fail
  have hnn : ((la.length : Int) + (lb.length : Int)) = ((la.length + lb.length : Nat) : Int) := by omega
  rw [hnn]
  clear hnn hw2 hw1 hn1 hn2
  refine (grow_nil_calls (la.length + lb.length) w (by omega)).mono ?_
  rintro e w1 ⟨v, rfl, hR, hB1⟩
  obtain ⟨A1, c1, rfl⟩ := Kd.R_slice hR
  have hA1 := Kd.C_below HA.out hB1
  have hb1 := blk_below HB.out hB1
  have hBB1 := Kd.C_below HBB.out hB1
  have hc0 : w1.cell? ⟨b, 0, none⟩ = some (.slice A la.length ca) := blk_cell hb1 0
  have hc1 : w1.cell? ⟨b, 1, none⟩ = some (.slice B lb.length cb) := blk_cell hb1 1
  have HR := Lib.hid hR; clear hR
  have HB1 := Lib.hid hB1; clear hB1
  have HA1 := Lib.hid hA1; clear hA1
  have HBB1 := Lib.hid hBB1; clear hBB1
  have Hb1 := Lib.hid hb1; clear hb1
  go_wp2
  refine wp_loop_rounds 3 ?_
  rw [rounds_succ]
  go_wp2_with (at_builtin; refine Kd.R_append_rows k34 (w0 := w) w.heap.size rfl (.tmp 31) (.tmp 32) 22 34 _ 32 rfl Try.underlying22 info34 rfl (by decide) (by decide) _ [] la A la.length ca (fun _ => True) (fun _ => False) rfl rfl HR.out HA1.out (fun x cs h => by rw [k34_open h]; exact k34_mkM _ _ _ _) (fun _ h => h.elim) (fun _ _ => trivial) HB1.out HB1.out.size (by simp; omega) ?_; intro v1 w2 ho hb2 hg2 hat2)
  obtain ⟨A2, c2, rfl⟩ := Kd.R_slice ho
  have hBB2 := Kd.C_below HBB.out hb2
  have hb2' := blk_below HB.out hb2
  have hc1 : w2.cell? ⟨b, 1, none⟩ = some (.slice B lb.length cb) := blk_cell hb2' 1
  simp only [List.nil_append] at ho
  have HR2 := Lib.hid ho; clear ho hg2 hat2
  have HB2 := Lib.hid hb2; clear hb2 hb2'
  have HBB2 := Lib.hid hBB2; clear hBB2
  rw [rounds_succ]
  go_wp2_with (at_builtin; refine Kd.R_append_rows k34 (w0 := w) w.heap.size rfl (.tmp 31) (.tmp 32) 22 34 _ 32 rfl Try.underlying22 info34 rfl (by decide) (by decide) _ la lb B lb.length cb (fun _ => True) (fun _ => False) rfl rfl HR2.out HBB2.out (fun x cs h => by rw [k34_open h]; exact k34_mkM _ _ _ _) (fun _ h => h.elim) (fun _ _ => trivial) HB2.out HB2.out.size (by omega) ?_; intro v1 w3 ho hb3 hg3 hat3)
  clear hg3 hat3
  rw [rounds_succ]
  go_wp2
  go_ret
  exact ⟨_, rfl, ho, hb3⟩

def encC (x : S34) : List Value := [.string x.f0, .int .i64 x.f1, .int .i64 x.f2]
def cmpC (x y : S34) : Int := Lib.compareBytes x.f0.data.toList y.f0.data.toList
theorem grow_drewNC (w : World) (os : Array Obj) : ∀ n, (Sort.grow w os).drewN n = Sort.grow (w.drewN n) os := fun _ => rfl
set_option maxRecDepth 100000 in
set_option maxHeartbeats 4000000 in
theorem merge1_calls (x y : S34) (W : World) : Calls Try.prog 43 #[.agg (encC x).toArray, .agg (encC y).toArray] W fun e w' => e = .returned (.int .i64 (cmpC x y)) ∧ ∃ q os, w' = Sort.grow (W.drewN q) os := by
  have hcon := fun W' => Any.strings_Compare Try.cmpC x.f0 y.f0 W'
  change ∀ W', Calls Try.prog 44 _ _ _ at hcon
  unfold encC cmpC
  generalize Lib.compareBytes x.f0.data.toList y.f0.data.toList = r at hcon ⊢
  go_enter Try.func43, Try.ntmps43
  go_wp2_with (go_at_call 44; refine (hcon _).mono ?_; rintro e w' ⟨rfl, rfl⟩)
  go_ret
  exact ⟨rfl, 0, _, by rw [Sort.alloc_eq_grow, Sort.alloc_eq_grow, Sort.grow_grow]; rfl⟩

abbrev DC := DataW Unit
def dC (x : S34) : DC := .agg [.lit (.string x.f0.data.toList), .lit (.int .i64 x.f1), .lit (.int .i64 x.f2)]
def kC (s : ByteArray) : Lit := .string s.data.toList
def RC : Value → Option (DC × List MemPlace)
  | .agg cs => (match cs.toList with
    | [.string s, .int .i64 n, .int .i64 t] => some (dC ⟨s, n, t⟩, [])
    | _ => none)
  | _ => none
theorem RC_mk (x : S34) : RC (.agg #[.string x.f0, .int .i64 x.f1, .int .i64 x.f2]) = some (dC x, []) := rfl
theorem RC_inv {v : Value} {y : DC × List MemPlace} (h : RC v = some y) : ∃ x : S34, v = .agg #[.string x.f0, .int .i64 x.f1, .int .i64 x.f2] ∧ y = (dC x, []) := by
  unfold RC at h
  split at h
  · rename_i cs
    split at h
    · rename_i s n t he
      refine ⟨⟨s, n, t⟩, ?_, (Option.some.inj h).symm⟩
      have : cs = #[.string s, .int .i64 n, .int .i64 t] := Array.toList_inj.1 he
      rw [this]
    · cases h
  · cases h
theorem ba_dataC {a b : ByteArray} (h : a.data.toList = b.data.toList) : a = b := by
  cases a; cases b; congr 1; exact Array.toList_inj.1 h
theorem kC_inj {a b : ByteArray} : kC a = kC b ↔ a = b := by
  constructor
  · intro h
    injection h with h
    exact ba_dataC h
  · rintro rfl; rfl
theorem dC_inj {x y : S34} (h : dC x = dC y) : x = y := by
  unfold dC at h
  injection h with h
  simp only [List.cons.injEq, DataW.lit.injEq, Lit.string.injEq, Lit.int.injEq, true_and, and_true] at h
  obtain ⟨h0, h1, h2⟩ := h
  have := ba_dataC h0
  cases x; cases y
  simp only at this h1 h2
  rw [this, h1, h2]
/-- one count more -/
def mrgC (x c : S34) : S34 := ⟨c.f0, min (wrap64 (x.f1 + c.f1)) 1000000, max x.f2 c.f2⟩
def getM (s : ByteArray) : List S34 → S34
  | [] => z34
  | x :: r => if x.f0 = s then x else getM s r
def putM : List S34 → S34 → List S34
  | [], c => [mrgC z34 c]
  | x :: r, c => if x.f0 = c.f0 then mrgC x c :: r else x :: putM r c
def hasM (s : ByteArray) (l : List S34) : Bool := l.any fun x => decide (x.f0 = s)
theorem getM_put (s : ByteArray) (c : S34) : ∀ l : List S34, getM s (putM l c) = if s = c.f0 then mrgC (getM s l) c else getM s l
  | [] => by
    unfold putM getM
    by_cases h : s = c.f0
    · rw [if_pos h, if_pos (show (mrgC z34 c).f0 = s from h.symm)]
    · rw [if_neg h, if_neg (show ¬ (mrgC z34 c).f0 = s from fun e => h e.symm)]; rfl
  | x :: r => by
    rw [putM]
    by_cases hx : x.f0 = c.f0
    · rw [if_pos hx, getM, getM]
      by_cases h : s = c.f0
      · rw [if_pos (show (mrgC x c).f0 = s from h.symm), if_pos h, if_pos (hx.trans h.symm)]
      · rw [if_neg (show ¬ (mrgC x c).f0 = s from fun e => h e.symm), if_neg h, if_neg (fun e => h (e.symm.trans hx))]
    · rw [if_neg hx, getM, getM, getM_put s c r]
      by_cases h : x.f0 = s
      · rw [if_pos h, if_pos h]
        by_cases hs : s = c.f0
        · exact absurd (h.trans hs) hx
        · rw [if_neg hs]
      · rw [if_neg h, if_neg h]
theorem hasM_put (s : ByteArray) (c : S34) : ∀ l : List S34, hasM s (putM l c) = (decide (s = c.f0) || hasM s l)
  | [] => by
    unfold hasM putM
    by_cases h : s = c.f0
    · simp [mrgC, h]
    · have h' : ¬ c.f0 = s := fun e => h e.symm
      simp [mrgC, h, h']
  | x :: r => by
    have ih := hasM_put s c r
    unfold hasM at ih ⊢
    rw [putM]
    by_cases hx : x.f0 = c.f0
    · rw [if_pos hx, List.any_cons, List.any_cons]
      by_cases h : s = c.f0
      · simp [mrgC, h]
      · have h' : ¬ c.f0 = s := fun e => h e.symm
        have h'' : ¬ x.f0 = s := fun e => h (e.symm.trans hx)
        simp [mrgC, h, h', h'']
    · rw [if_neg hx, List.any_cons, List.any_cons, ih]
      cases decide (x.f0 = s) <;> cases decide (s = c.f0) <;> rfl
theorem getM_name {s : ByteArray} : ∀ {l : List S34}, hasM s l = true → getM s l ∈ l ∧ (getM s l).f0 = s
  | [], h => by simp [hasM] at h
  | x :: r, h => by
    rw [getM]
    by_cases hx : x.f0 = s
    · rw [if_pos hx]; exact ⟨List.mem_cons_self, hx⟩
    · rw [if_neg hx]
      have h' : hasM s r = true := by
        unfold hasM at h ⊢
        rw [List.any_cons, decide_eq_false hx, Bool.false_or] at h
        exact h
      obtain ⟨h1, h2⟩ := getM_name h'
      exact ⟨List.mem_cons_of_mem _ h1, h2⟩
/-- no name twice -/
def OneM (l : List S34) : Prop := l.Pairwise fun x y => x.f0 ≠ y.f0
theorem putM_mem {c : S34} : ∀ {l : List S34} {z : S34}, z ∈ putM l c → z.f0 = c.f0 ∨ z ∈ l
  | [], z, h => by
    rw [putM] at h
    rw [List.mem_singleton.1 h]
    exact .inl rfl
  | x :: r, z, h => by
    rw [putM] at h
    by_cases hx : x.f0 = c.f0
    · rw [if_pos hx] at h
      rcases List.mem_cons.1 h with rfl | h
      · exact .inl rfl
      · exact .inr (List.mem_cons_of_mem _ h)
    · rw [if_neg hx] at h
      rcases List.mem_cons.1 h with rfl | h
      · exact .inr List.mem_cons_self
      · rcases putM_mem h with h | h
        · exact .inl h
        · exact .inr (List.mem_cons_of_mem _ h)
theorem putM_one (c : S34) : ∀ {l : List S34}, OneM l → OneM (putM l c)
  | [], _ => List.pairwise_singleton _ _
  | x :: r, h => by
    obtain ⟨h1, h2⟩ := List.pairwise_cons.1 h
    rw [putM]
    by_cases hx : x.f0 = c.f0
    · rw [if_pos hx]
      exact List.pairwise_cons.2 ⟨fun z hz => by
        have := h1 z hz
        rw [hx] at this
        exact this, h2⟩
    · rw [if_neg hx]
      refine List.pairwise_cons.2 ⟨fun z hz => ?_, putM_one c h2⟩
      rcases putM_mem hz with h | h
      · rw [h]; exact hx
      · exact h1 z h
theorem getM_of {x : S34} : ∀ {l : List S34}, OneM l → x ∈ l → getM x.f0 l = x
  | [], _, h => by cases h
  | y :: r, ho, h => by
    obtain ⟨h1, h2⟩ := List.pairwise_cons.1 ho
    rw [getM]
    rcases List.mem_cons.1 h with rfl | h
    · rw [if_pos rfl]
    · rw [if_neg (h1 x h)]
      exact getM_of h2 h
/-- the map's datum says what the list says -/
structure RepM (D : DC) (l : List S34) : Prop where
  tidy : Maps.Tidy D
  at' : ∀ s : ByteArray, D.atKey (kC s) (dC z34) = dC (getM s l)
  has : ∀ s : ByteArray, Maps.has D (kC s) = hasM s l
theorem rep_nil : RepM (.map []) [] := ⟨Maps.tidy_empty, fun _ => rfl, fun _ => rfl⟩
theorem rep_put {D : DC} {l : List S34} (h : RepM D l) (c : S34) : RepM (D.put (kC c.f0) (dC (mrgC (getM c.f0 l) c))) (putM l c) := by
  have hk : WideAt.IsKeyLit (kC c.f0) := trivial
  refine ⟨h.tidy.put hk _, fun s => ?_, fun s => ?_⟩
  · rw [getM_put]
    by_cases e : s = c.f0
    · rw [if_pos e, e, Maps.atKey_put_same h.tidy.isMap hk]
    · rw [if_neg e, Maps.atKey_put_other (fun h => e (kC_inj.1 h)), h.at' s]
  · rw [hasM_put]
    by_cases e : s = c.f0
    · rw [decide_eq_true e, e, Maps.has_put_same h.tidy.isMap hk]; rfl
    · rw [decide_eq_false e, Maps.has_put_other (fun h => e (kC_inj.1 h)), h.has s]; rfl

open Go.Shelf
open Go.Sort (SWO)
open Go.Maps (Keyed)
instance : Inhabited S34 := ⟨z34⟩
def CellsC (cur : Array Value) (i : Nat) (x : S34) : Prop := cur[i * 3]? = some (.string x.f0) ∧ cur[i * 3 + 1]? = some (.int .i64 x.f1) ∧ cur[i * 3 + 2]? = some (.int .i64 x.f2)
def HoldsC (cur : Array Value) (l : List S34) : Prop := ∀ i x, l[i]? = some x → CellsC cur i x
theorem at_C {w : World} {g : Nat} {cur : Array Value} {t i : Nat} {x : S34} (hb : w.heap[g]? = some (.cells cur t (0, 0))) (h : CellsC cur i x) :
    w.cell? ⟨g, i * 3, none⟩ = some (.string x.f0) ∧ w.cell? ⟨g, i * 3 + 1, none⟩ = some (.int .i64 x.f1) ∧ w.cell? ⟨g, i * 3 + 2, none⟩ = some (.int .i64 x.f2) :=
  ⟨by simp [World.cell?, hb, h.1], by simp [World.cell?, hb, h.2.1], by simp [World.cell?, hb, h.2.2]⟩
theorem drewN_grownC (w : World) (m : Nat) (g : Nat) : w.grownBy (w.drewN m) (some g) := ⟨rfl, rfl, rfl, Nat.le_refl _, fun _ _ _ => rfl⟩
theorem grown_drewNC {w w' : World} {g : Option Nat} (h : w.grownBy w' g) (m : Nat) : w.grownBy (w'.drewN m) g := ⟨h.os, h.tape, h.output, h.size, h.block⟩
theorem grown_setCell1C (w : World) (g j : Nat) (u : Value) : w.grownBy (w.setCell ⟨g, j, none⟩ u) (some g) := ⟨rfl, rfl, rfl, by simp [World.setCell], fun k _ hk => Below.heap_setCell _ _ _ _ (fun e => hk (by rw [e]))⟩
theorem encC_len (x : S34) : (encC x).length = 3 := rfl
theorem encC_one (x : S34) : ∀ v ∈ encC x, v.oneCell' = true := by
  intro v hv
  simp only [encC, List.mem_cons, List.not_mem_nil, or_false] at hv
  rcases hv with rfl | rfl | rfl <;> rfl
/-- what is sorted and held -/
theorem cells_of_R {w : World} {base : Nat} {ok : Nat → Prop} {A : Option Addr} {c : Nat} {l : List S34} (h : Kd.R k34 34 w base ok (.slice A l.length c) l) :
    (l = [] ∧ A = none ∧ c = 0) ∨ ∃ g cur, A = some ⟨g, 0, none⟩ ∧ base ≤ g ∧ w.heap[g]? = some (.cells cur 34 (0, 0)) ∧ l.length ≤ c ∧ c ≤ maxLen ∧ cur.size = c * 3 ∧ HoldsC cur l := by
  obtain ⟨_, inner, ho, hr⟩ := h
  rcases ho.2 with ⟨h1, h2⟩ | ⟨g, cap, cur, h1, h2, h3, h4, h5, h6, h7⟩
  · left
    simp only [Value.slice.injEq] at h1
    exact ⟨List.length_eq_zero_iff.1 h1.2.1, h1.1, h1.2.2⟩
  · right
    simp only [Value.slice.injEq] at h1
    obtain ⟨rfl, _, rfl⟩ := h1
    have hsz : k34.sz = 3 := rfl
    rw [hsz] at h6 h7
    refine ⟨g, cur, rfl, h2, h3, h4, h5, h6, fun i x hx => ?_⟩
    have hM := k34_openM (hr.2 i x hx)
    have hi := (List.getElem?_eq_some_iff.1 hx).1
    have e : ∀ j v, j < 3 → ([Value.string x.f0, .int .i64 x.f1, .int .i64 x.f2] : List Value)[j]? = some v → cur[i * 3 + j]? = some v := by
      intro j v hj hv
      rw [← hM] at hv
      rw [hsz, List.getElem?_take_of_lt hj, List.getElem?_drop, ← h7, List.getElem?_take_of_lt (by omega)] at hv
      simpa using hv
    exact ⟨e 0 _ (by omega) rfl, e 1 _ (by omega) rfl, e 2 _ (by omega) rfl⟩
theorem R_of_cells {w : World} {base g c : Nat} {cur : Array Value} {l : List S34} (hg : base ≤ g) (hb : w.heap[g]? = some (.cells cur 34 (0, 0))) (hlc : l.length ≤ c) (hcm : c ≤ maxLen) (hs : cur.size = c * 3) (H : HoldsC cur l) :
    Kd.R k34 34 w base (fun _ => True) (.slice (some ⟨g, 0, none⟩) l.length c) l := by
  refine ⟨fun _ _ => trivial, cur.toList.take (l.length * 3), ⟨by show _ = l.length * 3; simp; omega, .inr ⟨g, c, cur, rfl, hg, hb, hlc, hcm, hs, rfl⟩⟩, by show _ = l.length * 3; simp; omega, fun j p hj => ?_⟩
  have hi := (List.getElem?_eq_some_iff.1 hj).1
  obtain ⟨h0, h1, h2⟩ := H j p hj
  have e : ((cur.toList.take (l.length * 3)).drop (j * 3)).take 3 = [.string p.f0, .int .i64 p.f1, .int .i64 p.f2] := by
    apply List.ext_getElem?
    intro i
    rcases Nat.lt_or_ge i 3 with hi3 | hi3
    · rw [List.getElem?_take_of_lt hi3, List.getElem?_drop, List.getElem?_take_of_lt (by omega)]
      match i, hi3 with
      | 0, _ => simpa using h0
      | 1, _ => simpa using h1
      | 2, _ => simpa using h2
    · rw [List.getElem?_eq_none (by simp; omega), List.getElem?_eq_none (by simp; omega)]
  show k34.M w base _ p (((cur.toList.take (l.length * 3)).drop (j * 3)).take 3)
  rw [e]
  exact k34_mkM _ _ _ _
theorem holdsK_of {w : World} {g : Nat} {cur : Array Value} {l : List S34} (hb : w.heap[g]? = some (.cells cur 34 (0, 0))) (H : HoldsC cur l) : Sort.HoldsK encC 3 w g 0 l.toArray := by
  intro t ht
  have ht' : t < l.length * 3 := by simpa using ht
  refine ⟨?_, by simp [World.frozen?, hb]⟩
  rw [Sort.get_flatK _ _ _ _ (by simpa using ht')]
  have hd : t / 3 < l.length := by omega
  have e1 : l.toArray[t / 3]! = l[t / 3] := by simp [hd]
  rw [e1]
  obtain ⟨h0, h1, h2⟩ := H (t / 3) _ (List.getElem?_eq_getElem hd)
  have hm : t = t / 3 * 3 + t % 3 := by omega
  have hm3 : t % 3 < 3 := Nat.mod_lt _ (by omega)
  have key : cur[t]? = some ((encC l[t / 3])[t % 3]!) := by
    generalize t / 3 = q at *
    generalize t % 3 = r at *
    subst hm
    match r, hm3 with
    | 0, _ => exact h0
    | 1, _ => exact h1
    | 2, _ => exact h2
  simp only [World.cell?, Nat.zero_add, hb]
  simp [key]
theorem cells_sorted {w : World} {g n : Nat} {os : Array Obj} {cur : Array Value} {ts : List S34} (hb : w.heap[g]? = some (.cells cur 34 (0, 0))) (hl : ts.length * 3 ≤ cur.size) :
    ∃ cur2, (sortWorldK encC 3 w g 0 n ts.toArray os).heap[g]? = some (.cells cur2 34 (0, 0)) ∧ cur2.size = cur.size ∧ HoldsC cur2 ts ∧ w.grownBy (sortWorldK encC 3 w g 0 n ts.toArray os) (some g) := by
  have hg : g < w.heap.size := (Array.getElem?_eq_some_iff.1 hb).1
  refine ⟨Sort.putCells id 0 (Sort.flatK encC 3 ts.toArray) cur, ?_, by simp [Sort.putCells], fun i x hx => ?_, ⟨rfl, rfl, rfl, by simp [sortWorldK, Sort.putRowK], fun k hk hne => ?_⟩⟩
  · unfold sortWorldK Sort.putRowK
    rw [Sort.heap_grow_old _ _ (by simpa using hg)]
    simp [Sort.putRow, Sort.mapBlock, Sort.ahead, Array.getElem?_modify, hb, Sort.onCells]
  · have hi := (List.getElem?_eq_some_iff.1 hx).1
    have hxi : ts.toArray[i]! = x := by
      have := (List.getElem?_eq_some_iff.1 hx).2
      simp [hi, this]
    have e : ∀ j, j < 3 → (Sort.putCells id 0 (Sort.flatK encC 3 ts.toArray) cur)[i * 3 + j]? = some ((encC x)[j]!) := by
      intro j hj
      have h1 : i * 3 + j < cur.size := by omega
      have h2 : i * 3 + j < ts.length * 3 := by omega
      have h3 := Sort.get_flatK encC 3 ts.toArray (i * 3 + j) (by simpa using h2)
      rw [show (i * 3 + j) / 3 = i by omega, show (i * 3 + j) % 3 = j by omega, hxi] at h3
      rw [getElem!_pos _ _ (by simpa using h2)] at h3
      simp [Sort.putCells, h1, h2]
      simpa using h3
    exact ⟨e 0 (by omega), e 1 (by omega), e 2 (by omega)⟩
  · unfold sortWorldK Sort.putRowK
    rw [Sort.heap_grow_old _ _ (by simpa using hk)]
    have : g ≠ k := fun e => hne (by rw [e])
    simp [Sort.putRow, Sort.mapBlock, Sort.ahead, Array.getElem?_modify, this]
/-! ### by name -/
theorem cmpLays43 (blk off size : Nat) (w : World) : CmpLays Try.prog 43 #[] encC 3 cmpC blk off size w := fun _ _ _ _ x y => merge1_calls x y _
theorem compareBytes_neg : ∀ a b : List UInt8, (Lib.compareBytes a b < 0) ↔ a < b
  | [], [] => by simp [Lib.compareBytes]
  | [], _ :: _ => by simp [Lib.compareBytes]
  | _ :: _, [] => by simp [Lib.compareBytes]
  | x :: a, y :: b => by
    have ih := compareBytes_neg a b
    rw [Lib.compareBytes, List.cons_lt_cons_iff]
    by_cases h : x < y
    · simp [h]
    · by_cases h' : y < x
      · have : ¬ x = y := fun e => by subst e; exact h h'
        simp [h, h', this]
      · have : x = y := UInt8.le_antisymm (UInt8.not_lt.1 h') (UInt8.not_lt.1 h)
        simp [h, h', this, ih]
theorem ltOf_cmpC (x y : S34) : ltOf cmpC x y = decide (x.f0.data.toList < y.f0.data.toList) := by
  unfold ltOf cmpC
  exact decide_eq_decide.2 (compareBytes_neg _ _)
theorem swoC : SWO (ltOf cmpC) where
  irrefl x := by rw [ltOf_cmpC]; exact decide_eq_false (List.lt_irrefl _)
  trans x y z h1 h2 := by
    rw [ltOf_cmpC] at *
    exact decide_eq_true (List.lt_trans (of_decide_eq_true h1) (of_decide_eq_true h2))
  ntrans x y z h1 h2 := by
    rw [ltOf_cmpC] at *
    have h1 := of_decide_eq_false h1
    have h2 := of_decide_eq_false h2
    exact decide_eq_false (List.not_lt.2 (List.le_trans (List.not_lt.1 h2) (List.not_lt.1 h1)))
def keyC (x y : S34) : Bool := decide (x.f0.data.toList ≤ y.f0.data.toList)
def sortM (l : List S34) : List S34 := l.mergeSort keyC
theorem sortM_perm (l : List S34) : (sortM l).Perm l := List.mergeSort_perm _ _
theorem sortM_sorted (l : List S34) : (sortM l).Pairwise fun x y => keyC x y = true :=
  List.pairwise_mergeSort (fun a b c h1 h2 => by
    unfold keyC at *
    exact decide_eq_true (List.le_trans (of_decide_eq_true h1) (of_decide_eq_true h2))) (fun a b => by
    unfold keyC
    rcases List.le_total a.f0.data.toList b.f0.data.toList with h | h <;> simp [h]) _
theorem oneM_name {l : List S34} (h : OneM l) {x y : S34} (hx : x ∈ l) (hy : y ∈ l) (e : x.f0 = y.f0) : x = y := by
  rw [← getM_of h hx, ← getM_of h hy, e]
/-- what is sorted by name, no name twice, is one list -/
theorem sorted_name {l r : List S34} (h : OneM l) (hp : r.Perm l) (hs : r.Pairwise fun x y => keyC x y = true) : r = sortM l := by
  refine List.Perm.eq_of_pairwise (le := fun x y => keyC x y = true) (fun a b ha hb h1 h2 => ?_) hs (sortM_sorted l) (hp.trans (sortM_perm l).symm)
  unfold keyC at h1 h2
  exact oneM_name h (hp.mem_iff.1 ha) ((sortM_perm l).mem_iff.1 hb) (ba_dataC (List.le_antisymm (of_decide_eq_true h1) (of_decide_eq_true h2)))
theorem sort_calls (A : Option Addr) (c n : Nat) (l : List S34) (w : World) (h : Kd.R k34 34 w n (fun _ => True) (.slice A l.length c) l) (hl : l.length ≤ 1099511627776) (h1 : OneM l) :
    Calls Try.prog 42 #[.slice A l.length c, .func (.func 43) #[] #[]] w fun e w1 => e = .returned (.tuple #[]) ∧ Below n w w1 ∧ Kd.R k34 34 w1 n (fun _ => True) (.slice A l.length c) (sortM l) := by
  rcases cells_of_R h with ⟨rfl, rfl, rfl⟩ | ⟨g, cur, rfl, hg, hb, hlc, hcm, hs, H⟩
  · refine (AnyF.slices_SortFunc_none Try.sortC none 0 _ w).mono ?_
    rintro e w1 ⟨rfl, rfl⟩
    exact ⟨rfl, Below.refl _ _, by simpa [sortM] using h⟩
  · have eg : ∀ args w, (callFunc 43 args).run Try.prog w = .ok (.enter 43 args) w := enters_of Try.func43 (by kernel_rfl) rfl
    have hcon := AnyQ.slices_SortFunc Try.sortC 3 Try.isAgg34 Try.sizeOf34 encC encC_len encC_one cmpC swoC 43 #[] g 0 c l.toArray w eg (cmpLays43 g 0 _ w) (holdsK_of hb H) (Array.getElem?_eq_some_iff.1 hb).1 (by simp; omega)
    refine Calls.mono (show Calls Try.prog 42 #[.slice (some ⟨g, 0, none⟩) l.length c, .func (.func 43) #[] #[]] w _ from hcon) ?_
    rintro e w1 ⟨rfl, d', m, os, hP, hS, rfl⟩
    have hp : d'.toList.Perm l := by
      obtain ⟨hsz, _, hperm⟩ := hP
      have e1 : d'.extract 0 l.toArray.size = d' := by rw [← hsz]; exact Array.extract_size
      rw [e1, Array.extract_size] at hperm
      simpa using hperm
    have hso : d'.toList.Pairwise fun x y => keyC x y = true := by
      rw [List.pairwise_iff_getElem]
      intro i j hi hj hij
      have hi' : i < d'.size := by simpa using hi
      have hj' : j < d'.size := by simpa using hj
      have := hS i j (Nat.zero_le _) hij (by rw [← hP.1]; exact hj')
      rw [getElem!_pos d' j hj', getElem!_pos d' i hi', ltOf_cmpC] at this
      unfold keyC
      exact decide_eq_true (List.not_lt.1 (of_decide_eq_false (by simpa using this)))
    have hsl : (sortM l).length = l.length := (sortM_perm l).length_eq
    have hd : d' = (sortM l).toArray := by
      have := sorted_name h1 hp hso
      rw [← this]
    subst hd
    obtain ⟨cur2, hb2, hs2, H2, hG2⟩ := cells_sorted (n := m) (os := os) (ts := sortM l) hb (by rw [hsl]; omega)
    refine ⟨rfl, (Below.refl n w).grown hG2 ?_ (fun k hk => by injection hk with hk; omega), ?_⟩
    · have := (Array.getElem?_eq_some_iff.1 hb).1; omega
    · have := R_of_cells (c := c) (l := sortM l) hg hb2 (by omega) hcm (by omega) H2
      rw [hsl] at this
      exact this
/-! ### what the range over the map has taken -/
def mergeM (l : List S34) : List S34 := l.foldl putM []
theorem putAll_one : ∀ (l a : List S34), OneM a → OneM (l.foldl putM a)
  | [], _, h => h
  | c :: r, _, h => putAll_one r _ (putM_one c h)
theorem mergeM_one (l : List S34) : OneM (mergeM l) := putAll_one l [] .nil
theorem putM_len (c : S34) : ∀ l : List S34, (putM l c).length ≤ l.length + 1
  | [] => by simp [putM]
  | x :: r => by
    have := putM_len c r
    rw [putM]
    split
    · simp
    · simp; omega
theorem putAll_len : ∀ (l a : List S34), (l.foldl putM a).length ≤ a.length + l.length
  | [], a => by simp
  | c :: r, a => by
    have h1 := putAll_len r (putM a c)
    have h2 := putM_len c a
    simp only [List.foldl_cons, List.length_cons]; omega
theorem mergeM_len (l : List S34) : (mergeM l).length ≤ l.length := by
  have := putAll_len l []
  simpa [mergeM] using this
theorem hasM_mem {l : List S34} {x : S34} (h : x ∈ l) : hasM x.f0 l = true := List.any_eq_true.2 ⟨x, h, by simp⟩
theorem oneM_nodup {l : List S34} (h : OneM l) : l.Nodup := h.imp fun h e => h (by rw [e])
structure TakI (L : List S34) (left : Lit → Bool) (out : List S34) : Prop where
  one : OneM out
  sub : ∀ x ∈ out, x ∈ L
  done : ∀ x ∈ out, left (kC x.f0) = false
  rest : ∀ x ∈ L, left (kC x.f0) = false → x ∈ out
  known : ∀ s, left (kC s) = true → hasM s L = true
theorem TakI.start {L : List S34} {left : Lit → Bool} (h : ∀ s, left (kC s) = hasM s L) : TakI L left [] where
  one := .nil
  sub := fun _ h => by cases h
  done := fun _ h => by cases h
  rest := fun x hx e => by rw [h, hasM_mem hx] at e; cases e
  known := fun s e => by rw [h] at e; exact e
theorem sameKey_kC (a b : ByteArray) : (kC a).sameKey (kC b) = decide (a = b) := by
  by_cases h : a = b
  · subst h
    rw [decide_eq_true rfl]
    exact WideAt.sameKey_self trivial
  · rw [decide_eq_false h]
    cases hs : (kC a).sameKey (kC b)
    · rfl
    · exact absurd (kC_inj.1 (WideAt.sameKey_eq hs)) h
theorem TakI.step {L : List S34} {left : Lit → Bool} {out : List S34} (h : TakI L left out) (hL : OneM L) {s : ByteArray} {c : S34} (hs : left (kC s) = true) (hc : c = getM s L) :
    c.f0 = s ∧ TakI L (fun z => left z && !z.sameKey (kC s)) (out ++ [c]) := by
  obtain ⟨hm, hn⟩ := getM_name (h.known s hs)
  rw [← hc] at hm hn
  refine ⟨hn, ?_, ?_, ?_, ?_, ?_⟩
  · refine List.pairwise_append.2 ⟨h.one, List.pairwise_singleton _ _, fun x hx y hy => ?_⟩
    rw [List.mem_singleton.1 hy, hn]
    intro e
    have := h.done x hx
    rw [e, hs] at this
    cases this
  · intro x hx
    rcases List.mem_append.1 hx with hx | hx
    · exact h.sub x hx
    · rw [List.mem_singleton.1 hx]; exact hm
  · intro x hx
    show (left (kC x.f0) && !(kC x.f0).sameKey (kC s)) = false
    rcases List.mem_append.1 hx with hx | hx
    · rw [h.done x hx]; rfl
    · rw [List.mem_singleton.1 hx, hn, sameKey_kC, decide_eq_true rfl]; simp
  · intro x hx e
    have e : (left (kC x.f0) && !(kC x.f0).sameKey (kC s)) = false := e
    cases hl : left (kC x.f0)
    · exact List.mem_append_left _ (h.rest x hx hl)
    · rw [hl, sameKey_kC] at e
      have e' : x.f0 = s := by simpa using e
      have : x = c := oneM_name hL hx hm (e'.trans hn.symm)
      rw [this]
      exact List.mem_append_right _ (List.mem_singleton_self _)
  · intro s' e
    have e : (left (kC s') && !(kC s').sameKey (kC s)) = true := e
    exact h.known s' (by cases hl : left (kC s') <;> simp [hl] at e ⊢)
theorem TakI.all {L : List S34} {left : Lit → Bool} {out : List S34} (h : TakI L left out) (hL : OneM L) (hd : ∀ kl, left kl = false) : out.Perm L ∧ sortM out = sortM L := by
  have hp : out.Perm L := (List.perm_ext_iff_of_nodup (oneM_nodup h.one) (oneM_nodup hL)).2 fun x => ⟨h.sub x, fun hx => h.rest x hx (hd _)⟩
  exact ⟨hp, sorted_name hL ((sortM_perm out).trans hp) (sortM_sorted out)⟩
theorem TakI.len {L : List S34} {left : Lit → Bool} {out : List S34} (h : TakI L left out) : out.length ≤ L.length :=
  (oneM_nodup h.one).length_le_of_subset h.sub

def usage_Merge.f (l0 l1 : List (S34)) : Option (List (S34)) :=
  if l0.length ≤ 549755813888 ∧ l1.length ≤ 549755813888 ∧ ((l0 ++ l1).all fun x => decide (x.f0.size ≤ maxLen)) = true then some (sortM (mergeM (l0 ++ l1))) else none
theorem natltC {a j : Nat} (h : j < a) : ((a : Int) - ((j + 1 : Nat) : Int)).toNat < ((a : Int) - (j : Int)).toNat := by omega
theorem rdC (l : List S34) (i : Nat) (h : i < l.length) : rd_T34 l (i : Int) = l[i] := by
  unfold rd_T34
  rw [Int.toNat_natCast, List.getD_eq_getElem?_getD, List.getElem?_eq_getElem h]
  rfl
theorem RC_mk3 (s : ByteArray) (n t : Int) : RC (.agg #[.string s, .int .i64 n, .int .i64 t]) = some (dC ⟨s, n, t⟩, []) := rfl
structure MgI (w : World) (v : Value) (l : List S34) (i : Nat) (wr : World) : Prop where
  below : Below w.heap.size w wr
  cell : wr.heap[w.heap.size + 2]? = some (.cells #[.slice none 0 0] 24 (0, 0))
  row : Kd.R k34 34 wr (w.heap.size + 5) (fun k => w.heap.size + 5 ≤ k) v l
  map : ∃ D, wr.ownsMap Try.prog 9 RC (w.heap.size + 3) i D ∧ RepM D (mergeM (l.take i))
theorem MgI.alloc {w : World} {v : Value} {l : List S34} {i : Nat} {wr : World} (h : MgI w v l i wr) (o : Obj) : MgI w v l i (wr.alloc o) := by
  obtain ⟨D, h1, h2⟩ := h.map
  exact ⟨h.below.alloc h.below.size _, blk_alloc h.cell _, Kd.R_alloc h.row _, D, h1.alloc _, h2⟩
theorem MgI.lt {w : World} {v : Value} {l : List S34} {i : Nat} {wr : World} (h : MgI w v l i wr) : w.heap.size + 3 < wr.heap.size := by
  obtain ⟨D, h1, _⟩ := h.map
  exact h1.lt
theorem MgI.put {w : World} {v : Value} {l : List S34} {i : Nat} {wr w' : World} (h : MgI w v l i wr) (hi : i < l.length) {D : DC} (hD : w'.ownsMap Try.prog 9 RC (w.heap.size + 3) (i + 1) D) (hr : RepM D (mergeM (l.take (i + 1)))) (hg : wr.grownBy w' (some (w.heap.size + 3))) : MgI w v l (i + 1) w' :=
  ⟨h.below.grown hg h.below.size (fun k hk => by injection hk with hk; omega), (hg.block _ (by have := h.lt; omega) (by simp)).trans h.cell, Kd.R_grown h.row hg (fun k hk => by simp; omega), D, hD, hr⟩
theorem string_inv {key : Value} {kl : Lit} (h : keyOf Try.prog 9 key = some kl) : ∃ x, key = .string x ∧ kl = kC x := by
  cases key <;> simp [keyOf, Try.underlying9, mapKey] at h
  exact ⟨_, rfl, h.2.symm⟩
structure RgI (w : World) (N n : Nat) (D : DC) (v : Value) (left : Lit → Bool) (cnt : Nat) (out : List S34) (wx : World) : Prop where
  rg : wx.ranges Try.prog 9 RC (w.heap.size + 3) (N + 1) n D left cnt
  box : wx.heap[N]? = some (.cells #[v] 24 (0, 0))
  row : Kd.R k34 34 wx (N + 2) (fun k => N + 2 ≤ k) v out
  below : Below w.heap.size w wx
  cell : wx.heap[w.heap.size + 2]? = some (.cells #[.slice none 0 0] 24 (0, 0))
  hN : w.heap.size + 4 ≤ N
  size : N + 2 ≤ wx.heap.size
theorem RgI.next {w : World} {N n : Nat} {D : DC} {v : Value} {left left' : Lit → Bool} {cnt cnt' : Nat} {out : List S34} {wx w' : World} (h : RgI w N n D v left cnt out wx)
    (hr : w'.ranges Try.prog 9 RC (w.heap.size + 3) (N + 1) n D left' cnt') (hg : wx.grownBy w' (some (N + 1))) : RgI w N n D v left' cnt' out w' :=
  ⟨hr, (hg.block _ (by have := h.size; omega) (by simp)).trans h.box, Kd.R_grown h.row hg (fun k hk => by simp; omega), h.below.grown hg h.below.size (fun k hk => by injection hk with hk; have := h.hN; omega),
    (hg.block _ (by have := h.size; have := h.hN; omega) (by have := h.hN; simp; omega)).trans h.cell, h.hN, Nat.le_trans h.size hg.size⟩
theorem RgI.alloc {w : World} {N n : Nat} {D : DC} {v : Value} {left : Lit → Bool} {cnt : Nat} {out : List S34} {wx : World} (h : RgI w N n D v left cnt out wx) (o : Obj) : RgI w N n D v left cnt out (wx.alloc o) :=
  ⟨h.rg.alloc o, blk_alloc h.box _, Kd.R_alloc h.row _, h.below.alloc h.below.size _, blk_alloc h.cell _, h.hN, Nat.le_trans h.size (by simp)⟩
theorem RgI.put {w : World} {N n : Nat} {D : DC} {v v1 : Value} {left : Lit → Bool} {cnt : Nat} {out out1 : List S34} {wx w1 : World} (h : RgI w N n D v left cnt out wx)
    (hrow : Kd.R k34 34 w1 (N + 2) (fun k => N + 2 ≤ k) v1 out1) (hb : Below (N + 2) wx w1) : RgI w N n D v1 left cnt out1 (w1.setCell ⟨N, 0, none⟩ v1) := by
  have hg : w1.grownBy (w1.setCell ⟨N, 0, none⟩ v1) (some N) := ⟨rfl, rfl, rfl, by simp [World.setCell], fun k _ hk => Below.heap_setCell _ _ _ _ (fun e => hk (by rw [e]))⟩
  have h1 : w1.heap[N]? = some (.cells #[v] 24 (0, 0)) := (hb.block N (by omega)).trans h.box
  have h2 : w1.ranges Try.prog 9 RC (w.heap.size + 3) (N + 1) n D left cnt := by
    obtain ⟨es, clock, since, seen, c0, hb0, F, hs, hD, hr, rest⟩ := h.rg
    exact ⟨es, clock, since, seen, c0, (hb.block _ (by have := h.hN; omega)).trans hb0, F, hs, hD, (hb.block _ (by omega)).trans hr, rest⟩
  have hB : Below w.heap.size w w1 := h.below.trans (hb.mono (by have := h.hN; omega))
  refine ⟨h2.kept hg (by have := h.hN; simp; omega) (by simp), ?_, Kd.R_far hrow (fun k hk => by show k ≠ N; omega) _, hB.grown hg hB.size (fun k hk => by injection hk with hk; have := h.hN; omega), ?_, h.hN, by have := hb.size; have := h.size; simp [World.setCell]; omega⟩
  · have := blk_put h1 0 v1 rfl
    simpa using this
  · rw [Below.heap_setCell _ _ _ _ (show w.heap.size + 2 ≠ N by have := h.hN; omega)]
    exact (hb.block _ (by have := h.hN; omega)).trans h.cell
set_option maxRecDepth 100000 in
set_option maxHeartbeats 8000000 in
theorem usage_Merge.calls (A0_0 : Option Addr) (c0_0 : Nat) (l0_0 : List (S34)) (A1_0 : Option Addr) (c1_0 : Nat) (l1_0 : List (S34)) (r : List (S34)) (w : World) (hr0_0 : Kd.C k34 w A0_0 l0_0.length l0_0) (hc0_0 : l0_0.length ≤ c0_0) (hr1_0 : Kd.C k34 w A1_0 l1_0.length l1_0) (hc1_0 : l1_0.length ≤ c1_0) (h : usage_Merge.f l0_0 l1_0 = some r) :
    Calls Try.prog 29 #[.agg #[.slice A0_0 l0_0.length c0_0], .agg #[.slice A1_0 l1_0.length c1_0]] w fun e w' => ∃ v0_ : Value, e = .returned (.agg #[v0_]) ∧ Kd.R k34 34 w' w.heap.size (fun _ => True) v0_ r ∧ Below w.heap.size w w' := by
  unfold usage_Merge.f at h
  by_cases hl : l0_0.length ≤ 549755813888 ∧ l1_0.length ≤ 549755813888 ∧ ((l0_0 ++ l1_0).all fun x => decide (x.f0.size ≤ maxLen)) = true
  · rw [if_pos hl] at h
    obtain rfl := Option.some.inj h
    clear h
    have HL := Lib.hid hl; clear hl
    have HR0 := Lib.hid hr0_0; have HR1 := Lib.hid hr1_0; clear hr0_0 hr1_0
    go_enter Try.func29, Try.ntmps29
    have hmm := @run_makeMap Try.prog
    go_wp2_with fail
    obtain ⟨wE, hwE⟩ : ∃ wE, wE = ((((w.alloc (.cells #[.slice A0_0 l0_0.length c0_0] 24)).alloc (.cells #[.slice A1_0 l1_0.length c1_0] 24)).alloc (.cells #[.slice none 0 0] 24)).alloc (.map #[] 0)).alloc (.cells #[.slice A0_0 l0_0.length c0_0, .slice A1_0 l1_0.length c1_0] 22) := ⟨_, rfl⟩
    have hsE : wE.heap.size = w.heap.size + 5 := by rw [hwE]; simp
    have hBE : Below w.heap.size w wE := by
      rw [hwE]
      exact ((((((Below.refl _ _).alloc (Nat.le_refl _) _).alloc (by simp) _).alloc (by simp; omega) _).alloc (by simp; omega) _).alloc (by simp; omega) _)
    have hLE : wE.heap[w.heap.size + 4]? = some (.cells #[.slice A0_0 l0_0.length c0_0, .slice A1_0 l1_0.length c1_0] 22 (0, 0)) := by
      have := World.alloc_heap_new ((((w.alloc (.cells #[.slice A0_0 l0_0.length c0_0] 24)).alloc (.cells #[.slice A1_0 l1_0.length c1_0] 24)).alloc (.cells #[.slice none 0 0] 24)).alloc (.map #[] 0)) (.cells #[.slice A0_0 l0_0.length c0_0, .slice A1_0 l1_0.length c1_0] 22)
      rw [← hwE] at this
      simpa using this
    have hCE : wE.heap[w.heap.size + 2]? = some (.cells #[.slice none 0 0] 24 (0, 0)) := by
      have := World.alloc_heap_new ((w.alloc (.cells #[.slice A0_0 l0_0.length c0_0] 24)).alloc (.cells #[.slice A1_0 l1_0.length c1_0] 24)) (.cells #[.slice none 0 0] 24)
      have := blk_alloc (blk_alloc this (.map #[] 0)) (.cells #[.slice A0_0 l0_0.length c0_0, .slice A1_0 l1_0.length c1_0] 22)
      rw [← hwE] at this
      simpa using this
    have hME : wE.ownsMap Try.prog 9 RC (w.heap.size + 3) 0 (.map []) := by
      have := (World.ownsMap_made (H := Unit) (((w.alloc (.cells #[.slice A0_0 l0_0.length c0_0] 24)).alloc (.cells #[.slice A1_0 l1_0.length c1_0] 24)).alloc (.cells #[.slice none 0 0] 24)) Try.prog 9 RC).alloc (.cells #[.slice A0_0 l0_0.length c0_0, .slice A1_0 l1_0.length c1_0] 22)
      rw [← hwE] at this
      simpa using this
    rw [← hwE]
    clear hwE hmm
    simp only [Nat.add_assoc, Nat.reduceAdd]
    have hcc := concat_calls (w.heap.size + 4) 22 A0_0 A1_0 c0_0 c1_0 l0_0 l1_0 wE hLE (Kd.C_below HR0.out hBE) (Kd.C_below HR1.out hBE) hc0_0 hc1_0 (by have := HL.out.1; omega) (by have := HL.out.2.1; omega)
    refine hcc.mono ?_
    rintro e w1 ⟨v1, rfl, hR1, hB1⟩
    obtain ⟨l, hlE⟩ : ∃ l, l = l0_0 ++ l1_0 := ⟨_, rfl⟩
    have hll : l.length ≤ 1099511627776 := by have := HL.out; rw [hlE]; simp; omega
    have hnm : ∀ x ∈ l, x.f0.size ≤ maxLen := fun x hx => by
      have := List.all_eq_true.1 HL.out.2.2 x (hlE ▸ hx)
      exact of_decide_eq_true this
    rw [← hlE] at hR1
    have HLE := Lib.hid hlE
    obtain ⟨A1, c1, rfl⟩ := Kd.R_slice hR1
    have hI : MgI w (.slice A1 l.length c1) l 0 w1 := by
      rw [hsE] at hR1 hB1
      refine ⟨hBE.trans (hB1.mono (by omega)), blk_below hCE (by rw [hsE]; exact hB1), Kd.R_mono (Kd.R_bound hR1) (fun k hk => hk.2.1), .map [], ?_, rep_nil⟩
      exact hME.kept (row := none) ⟨hB1.os, hB1.tape, hB1.output, by have := hB1.size; omega, fun k hk _ => hB1.block k (by omega)⟩ (by simp)
    have HI := Lib.hid hI; have HLL := Lib.hid hll; have HNM := Lib.hid hnm
    clear hI hll hnm hlE hR1 hB1 hcc hME hCE hLE hBE hsE HR0 HR1 HL hc0_0 hc1_0
    go_wp2
    go_loopw [20] (fun a wr => ∃ i : Nat, i ≤ l.length ∧ a = .int .i64 (i : Int) ∧ Hid (MgI w (.slice A1 l.length c1) l i wr)) (fun a _ => ((l.length : Int) - intOf a).toNat)
    case atStart => exact ⟨0, Nat.zero_le _, rfl, HI⟩
    case round =>
      obtain ⟨i, hi, rfl, HG⟩ := hrel
      by_cases hlt : i < l.length
      · have hlt' : (i : Int) < (l.length : Int) := by omega
        have hge : (0 : Int) ≤ (i : Int) := by omega
        obtain ⟨ad, rfl, hx0, hx1, hx2⟩ := at_T34 (Kd.R_reads' HG.out.row).2.2 (i : Int) hge hlt'
        have hr : rd_T34 l (i : Int) = l[i] := rdC l i hlt
        rw [hr] at hx0 hx1 hx2
        clear hr
        simp only [Int.toNat_natCast] at hx0 hx1 hx2
        have hkey := WideMaps.keyOf_string_mk Try.underlying9 (HNM.out _ (List.getElem_mem hlt))
        generalize hxx : l[i] = x at hx0 hx1 hx2 hkey
        obtain ⟨D, hown, hrep⟩ := HG.out.map
        obtain ⟨v8, ps8, hlook, hv8⟩ := (hown.alloc (.cells #[.string x.f0, .int .i64 x.f1, .int .i64 x.f2] 34)).lookup (Maps.string_keyed Try.underlying9) Try.underlying58 (Try.zeroValue34 _) (RC_mk z34) hkey
        obtain ⟨y, rfl, hy⟩ := RC_inv hv8
        have hyD : D.atKey (kC x.f0) (dC z34) = dC y := congrArg Prod.fst hy
        rw [hrep.at'] at hyD
        have hyM := dC_inj hyD
        have HYM := Lib.hid hyM
        have HOWN := Lib.hid ((hown.alloc (.cells #[.string x.f0, .int .i64 x.f1, .int .i64 x.f2] 34)).alloc (.cells #[.string y.f0, .int .i64 y.f1, .int .i64 y.f2] 34))
        have HREP := Lib.hid hrep
        have HXX := Lib.hid hxx
        have him : i < maxLen := by have := HLL.out; simp only [maxLen]; omega
        clear hyD hy hv8 hown hrep hyM hxx
        go_wp2_with (at_mapUpdate; refine wpList_mapUpdate_own _ rfl _ _ _ 58 rfl 9 34 (Maps.string_keyed Try.underlying9) Try.underlying58 RC (w.heap.size + 3) i D rfl HOWN.out him (.string x.f0) (.agg #[.string x.f0, .int .i64 _, .int .i64 _]) (kC x.f0) rfl rfl hkey _ [] (RC_mk3 _ _ _) ?_; intro w2 hown2 hgr2)
        all_goals
          have hfin : ∀ n t, mrgC y x = ⟨x.f0, n, t⟩ → w2.ownsMap Try.prog 9 RC (w.heap.size + 3) (i + 1) (D.put (kC x.f0) (dC ⟨x.f0, n, t⟩)) → MgI w (.slice (some ad) l.length c1) l (i + 1) w2 := by
            intro n t he ho
            refine MgI.put ((HG.out.alloc (.cells #[.string x.f0, .int .i64 x.f1, .int .i64 x.f2] 34)).alloc (.cells #[.string y.f0, .int .i64 y.f1, .int .i64 y.f2] 34)) hlt ho ?_ hgr2
            rw [← he, ← HYM.out, List.take_succ_eq_append_getElem hlt, HXX.out]
            have e2 : mergeM (l.take i ++ [x]) = putM (mergeM (l.take i)) x := by unfold mergeM; rw [List.foldl_append]; rfl
            rw [e2]
            exact rep_put HREP.out x
        all_goals
          have hw : wrap64 ((i : Int) + 1) = ((i + 1 : Nat) : Int) := by have := HLL.out; unfold wrap64; omega
          rw [hw]
          refine ⟨⟨i + 1, hlt, rfl, Lib.hid (hfin _ _ ?_ hown2)⟩, natltC hlt⟩
          unfold mrgC
          congr 1
          · split <;> omega
          · split <;> omega
      · have hlt' : ¬ ((i : Int) < (l.length : Int)) := by omega
        have ei : l.take i = l := List.take_of_length_le (by omega)
        obtain ⟨D, hown, hrep⟩ := HG.out.map
        rw [ei] at hrep
        have HFR := Lib.hid HG.out.cell
        have HOWN := Lib.hid hown; have HREP := Lib.hid hrep
        have HBW := Lib.hid HG.out.below
        have hlen : (mergeM l).length ≤ 1099511627776 := by have := mergeM_len l; have := HLL.out; omega
        have HLN := Lib.hid hlen
        clear hown hrep ei HI HG hlen
        go_wp2_with (first | (at_range; refine wpList_range_own _ rfl _ 58 rfl 9 34 (Maps.string_keyed Try.underlying9) Try.underlying58 RC (w.heap.size + 3) i D rfl (HOWN.out.alloc _) ?_; intro w0 hrg0 hg0 hs0) | go_in)
        clear hlt' hlt
        obtain ⟨N, hN⟩ : ∃ N, N = wr.heap.size := ⟨_, rfl⟩
        have hsa : (wr.alloc (.cells #[.slice none 0 0] 24)).heap.size = N + 1 := by rw [hN]; simp
        rw [hsa] at hrg0 hs0
        have hw4 : w.heap.size + 3 < N := by have := HOWN.out.lt; omega
        have HR0 := Lib.hid (show RgI w N i D (.slice none 0 0) (Maps.has D) (Maps.size D) [] w0 from
          ⟨hrg0, (hg0.block N (by omega) (by simp)).trans (by have := World.alloc_heap_new wr (.cells #[.slice none 0 0] 24); rw [← hN] at this; simpa using this), Kd.R_nil _ _ _ _ _,
            (HBW.out.alloc HBW.out.size _).grown hg0 (by have := HBW.out.size; simp; omega) (fun k hk => by cases hk), (hg0.block _ (by omega) (by simp)).trans (blk_alloc HFR.out _), by omega, by omega⟩)
        have HT0 := Lib.hid (TakI.start (L := mergeM l) HREP.out.has)
        rw [← hN]
        clear hrg0 hg0 hs0 hsa hw4 hN HBW HFR HOWN
        go_loopw [] (fun wx => ∃ (left : Lit → Bool) (cnt : Nat) (out : List S34) (v : Value), Hid (RgI w N i D v left cnt out wx) ∧ Hid (TakI (mergeM l) left out)) (fun wx => wx.rangeLeft (w.heap.size + 3) (N + 1))
        case atStart => exact ⟨_, _, _, _, HR0, HT0⟩
        case round =>
          obtain ⟨left, cnt, out, v, HX, HT⟩ := hrel
          clear HR0 HT0
          go_wp2_with (first
            | (at_next; refine wpList_next_ranges _ rfl _ rfl 9 (Maps.string_keyed Try.underlying9) RC Value.string (fun c : S34 => .agg #[.string c.f0, .int .i64 c.f1, .int .i64 c.f2]) (fun key kl hk => by obtain ⟨x, hx, _⟩ := string_inv hk; exact ⟨x, hx⟩) (fun v y hv => by obtain ⟨x, hx, _⟩ := RC_inv hv; exact ⟨x, hx⟩) (w.heap.size + 3) (N + 1) i D left cnt rfl HX.out.rg ?_ ?_)
            | go_in)
          · intro hc0 hl0
            obtain ⟨hp, hs⟩ := HT.out.all (mergeM_one l) hl0
            have HS := Lib.hid hs
            obtain ⟨Av, cv, rfl⟩ := Kd.R_slice HX.out.row
            have hbx : wr.cell? ⟨N, 0, none⟩ = some (.slice Av out.length cv) := (blk_cell HX.out.box 0).trans rfl
            have hbf := blk_frozen HX.out.box 0
            have hcon := sort_calls Av cv (N + 2) out wr (Kd.R_mono HX.out.row (fun _ _ => trivial)) (by have := HT.out.len; have := HLN.out; omega) HT.out.one
            have HCON := Lib.hid hcon
            clear hcon hs hp hc0 hl0
            go_wp2_with fail
            refine HCON.out.mono ?_
            rintro e w2 ⟨rfl, hB2, hR2⟩
            have hN4 := HX.out.hN
            have hbx2 : w2.cell? ⟨N, 0, none⟩ = some (.slice Av out.length cv) := (hB2.cell (show N < N + 2 by omega)).trans hbx
            have hcl := (hB2.block (w.heap.size + 2) (by omega)).trans HX.out.cell
            have hclf := blk_frozen hcl 0
            have hclc := blk_cell hcl 0
            have HR2 := Lib.hid hR2
            have HB2 := Lib.hid (HX.out.below.trans (hB2.mono (by omega)))
            have HN4 := Lib.hid hN4
            have HCL := Lib.hid hcl
            clear hB2 hR2 hN4 hcl
            go_wp2
            have hput := blk_put (cs := #[.slice none 0 0]) HCL.out 0 (.slice Av out.length cv) rfl
            refine bodyPost_ret (results_cell_row rfl _ _ (w.heap.size + 2) 24 #[.slice Av out.length cv] (0, 0) _ rfl hput Try.underlying24 rfl (by kernel_rfl)) rfl ?_
            refine ⟨_, rfl, ?_, ?_⟩
            · rw [← HLE.out, ← HS.out]
              have h1 : Kd.R k34 34 (w2.setCell ⟨w.heap.size + 2, 0, none⟩ (.slice Av out.length cv)) (N + 2) (fun k => True ∧ N + 2 ≤ k ∧ _) _ _ := Kd.R_far (p := ⟨w.heap.size + 2, 0, none⟩) (Kd.R_bound HR2.out) (fun k hk => by have := HN4.out; have := hk.2.1; show k ≠ w.heap.size + 2; omega) _
              exact Kd.R_mono (Kd.R_lower h1 (by have := HN4.out; omega)) (fun _ _ => trivial)
            · exact below_set HB2.out (by show w.heap.size ≤ w.heap.size + 2; omega)
          · rintro x c kl y ps w1 cnt1 hkl hlx hv hat hrg1 hlt1 hg1 hs1 hen
            obtain ⟨_, e1, rfl⟩ := string_inv hkl
            cases e1
            rw [RC_mk] at hv
            cases hv
            have hcx : c = getM x (mergeM l) := dC_inj ((hat (dC z34)).symm.trans (HREP.out.at' x))
            obtain ⟨hcn, hT1⟩ := HT.out.step (mergeM_one l) hlx hcx
            have HX1 := Lib.hid (HX.out.next hrg1 hg1)
            have HT1 := Lib.hid hT1
            have HCL := Lib.hid hlt1
            have HLE0 := Lib.hid (show wr.rangeLeft (w.heap.size + 3) (N + 1) = cnt from HX.out.rg.left_eq)
            have hol : out.length ≤ 1099511627776 := by have := HT.out.len; have := HLN.out; omega
            have HOL := Lib.hid hol
            have HX2 := Lib.hid (HX1.out.alloc (.cells #[.string c.f0, .int .i64 c.f1, .int .i64 c.f2] 34))
            have hbx : (w1.alloc (.cells #[.string c.f0, .int .i64 c.f1, .int .i64 c.f2] 34)).cell? ⟨N, 0, none⟩ = some v := (blk_cell HX2.out.box 0).trans rfl
            have hbf := blk_frozen HX2.out.box 0
            clear hkl hlx hat hrg1 hlt1 hg1 hs1 hcx hcn hT1 hol HX HT
            go_wp2_with (first
              | (at_builtin; refine Kd.R_append k34 (w0 := w1.alloc (.cells #[.string c.f0, .int .i64 c.f1, .int .i64 c.f2] 34)) (N + 2) rfl (.tmp 53) (.tmp 55) 22 34 (.agg #[(.string ⟨#[]⟩), (.int .i64 0), (.int .i64 0)]) 32 rfl Try.underlying22 info34 rfl (by decide) (by omega) v out c [.string c.f0, .int .i64 c.f1, .int .i64 c.f2] (fun k => N + 2 ≤ k) (fun _ => False) rfl (by first | (go_simp; done) | (go_simp; rfl)) (k34_mkM _ _ _ c) (fun _ hk => hk.elim) (fun k hk => by have := HX2.out.size; omega) HX2.out.row (Below.refl _ _) HX2.out.size (by have := HOL.out; omega) ?_
                 intro v1 w3 hrow hb3 hg3 hat3
                 have HX3 := Lib.hid (HX2.out.put hrow hb3)
                 have hvc : w3.cell? ⟨N, 0, none⟩ = some v := (hb3.cell (show N < N + 2 by omega)).trans hbx
                 have hvf := blk_frozen ((hb3.block N (show N < N + 2 by omega)).trans HX2.out.box) 0
                 obtain ⟨Ao, co, hv1⟩ := Kd.R_slice hrow
                 rw [show (out ++ [c]).length = out.length + 1 by simp] at hv1
                 subst hv1
                 clear hrow hb3 hg3 hat3)
              | go_in)
            refine ⟨⟨_, _, _, _, HX3, HT1⟩, ?_⟩
            rw [HX3.out.rg.left_eq, HLE0.out]
            exact HCL.out
  · rw [if_neg hl] at h
    exact absurd h (by simp)



end Go.Proofs.Ytbahkbnkbhhcdaa.PAll
