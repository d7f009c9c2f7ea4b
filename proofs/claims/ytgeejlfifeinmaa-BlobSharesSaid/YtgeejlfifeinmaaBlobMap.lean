/-
  blob.byText: the iterator slices.Backward, and the map of the texts, as a datum; the datum's size and look-up in plain words.
-/
import Derived.Test.YtgeejlfifeinmaaPAllx0
import Derived.RangeFuncNested
import Derived.RangeFuncBox
import Derived.RangeFuncBound
import Derived.RangeFuncCalls
import Derived.RangeFuncLeaves
import Derived.Shelf.Abstract
import Derived.Shelf.RegionOpen
import Derived.WalkKit
import Derived.OwnWalkIn
import Derived.TacticsInMore
import Derived.LoopNIn
import Derived.LoopIn
import Derived.Maps.OwnIn
import Derived.Maps.OwnSet
import Derived.Maps.Views
import Derived.Lib.Hide
import Derived.StringKeys
namespace Go.Proofs.Ytgeejlfifeinmaa.PAll
open Go.RowKit Go.Proofs.YtgeejlfifeinmaaW.PrintWords Go.Proofs.YtgeejlfifeinmaaW.PrintLast Go.Proofs.YtgeejlfifeinmaaW.PrintMore
set_option linter.unusedVariables false
set_option linter.unusedSimpArgs false
section BackIter
open Go.Shelf
attribute [local go_sem] Oper.semAt_some
/-- what the iterator hands over: the index, the blob -/
abbrev BX := { x : Int × S39 // (Lit.int .i64 x.2.f0).wf = true ∧ x.2.f1.size ≤ maxLen }
def bxs (x : BX) : Array Value := #[.int .i64 x.1.1, .agg #[.int .i64 x.1.2.f0, .string x.1.2.f1]]
def BFits (xs : List S39) : Prop := ∀ b ∈ xs, (Lit.int .i64 b.f0).wf = true ∧ b.f1.size ≤ maxLen
theorem bfits_rd {xs : List S39} (h : BFits xs) (i : Int) : (Lit.int .i64 (rd_T39 xs i).f0).wf = true ∧ (rd_T39 xs i).f1.size ≤ maxLen := by
  unfold rd_T39
  rw [List.getD_eq_getElem?_getD]
  rcases hx : xs[i.toNat]? with _ | b
  · exact ⟨by decide, by decide⟩
  · exact h b (List.mem_of_getElem? hx)
/-- the k-th that comes -/
def bwI (xs : List S39) (h : BFits xs) (x : Int) : BX := ⟨(x, rd_T39 xs x), bfits_rd h x⟩
def bwAt (xs : List S39) (h : BFits xs) (k : Nat) : BX := bwI xs h ((xs.length : Int) - 1 - k)
def bwUp (xs : List S39) (h : BFits xs) (k : Nat) : List BX := (List.range k).map (bwAt xs h)
theorem bwUp_succ (xs : List S39) (h : BFits xs) (k : Nat) : bwUp xs h (k + 1) = bwUp xs h k ++ [bwAt xs h k] := by simp [bwUp, List.range_succ]
theorem bwUp_length (xs : List S39) (h : BFits xs) (k : Nat) : (bwUp xs h k).length = k := by simp [bwUp]

/-- what a round keeps: what lay below n, and the iterator's own box -/
def KpB (n B : Nat) (W W' : World) : Prop := Below n W W' ∧ W'.heap[B]? = W.heap[B]?
theorem KpB.refl (n B : Nat) (W : World) : KpB n B W W := ⟨Below.refl _ _, rfl⟩
theorem KpB.trans {n B : Nat} {X Y Z : World} (h : KpB n B X Y) (k : KpB n B Y Z) : KpB n B X Z := ⟨h.1.trans k.1, k.2.trans h.2⟩
theorem KpB.book {n B : Nat} {w : World} (hn : n ≤ w.heap.size) (hB : B < w.heap.size) (W : World) (l : Nat) (o o' : Obj) (hl : w.heap.size ≤ l) (h : W.heap[l]? = some o) (h1 : o.isCells = false) (h2 : o.isWalk = false) : KpB n B W (W.putObj l o') := by
  refine ⟨belowK_b hn W l o o' hl h h1 h2, ?_⟩
  have hne : l ≠ B := by omega
  simp [World.putObj, Array.getElem?_setIfInBounds, hne]
theorem cell_block {W W' : World} {b : Nat} (h : W'.heap[b]? = W.heap[b]?) (i : Nat) : W'.cell? ⟨b, i, none⟩ = W.cell? ⟨b, i, none⟩ := by
  simp [World.cell?, h]

set_option maxRecDepth 100000 in
set_option maxHeartbeats 2000000 in
theorem bw1_in (F : Fence) (n : Nat) (h26 : F.fn 26) (hro : F.round = none) (hn : 1 ≤ n) (l Bs : Nat) (w0 : World) (A : Option Addr) (cap : Nat) (xs : List S39) (hf : BFits xs) (hC : Kd.C k39 w0 A xs.length xs) (hreach : xs.length ≤ 5864062014806) (J Jx : List BX → World → Prop)
    (hY : ∀ pre (x : BX) W, J pre W → pre.length < xs.length → YieldAt F (n - 1) Try.prog l (bxs x) W fun e W' =>
      (e = .returned (.bool true) ∧ J (pre ++ [x]) W' ∧ KpB w0.heap.size Bs W W') ∨ (e = .returned (.bool false) ∧ Jx (pre ++ [x]) W'))
    (W : World) (hW0 : Below w0.heap.size w0 W) (hBs : W.cell? ⟨Bs, 0, none⟩ = some (.slice A xs.length cap)) (h0 : J [] W) :
    CallsIn F n Try.prog 26 #[.func (.yield l) #[] #[], .pointer (some ⟨Bs, 0, none⟩)] W fun e W' => (∃ v, e = .returned v) ∧
      ((∃ ys, ys = bwUp xs hf xs.length ∧ J ys W') ∨ (∃ pre, (∃ k, k ≤ xs.length ∧ pre = bwUp xs hf k) ∧ Jx pre W')) := by
  refine callsIn_of_wp Try.func26 rfl h26 ?_ hro
  simp only [Try.ntmps26, List.size_toArray, List.length_cons, List.length_nil, Nat.reduceAdd, Nat.reduceSub, Array.replicate_succ, Array.replicate_zero, List.push_toArray, List.append_toArray, List.nil_append, List.cons_append]
  gi_wp2
  have hw1 : wrap64 ((xs.length : Int) - 1) = (xs.length : Int) - 1 := by unfold wrap64; omega
  gi_loopw [3] (fun i wr => ∃ x : Int, i = .int .i64 x ∧ Hid (∃ k : Nat, x = (xs.length : Int) - 1 - k ∧ k ≤ xs.length ∧ J (bwUp xs hf k) wr ∧ KpB w0.heap.size Bs W wr))
    (fun i _ => (intOf i + 1).toNat)
  case atStart =>
    exact ⟨_, rfl, Lib.hid ⟨0, by simp [hw1], Nat.zero_le _, h0, KpB.refl _ _ _⟩⟩
  case round =>
    obtain ⟨x, rfl, hid⟩ := hrel
    obtain ⟨k, hx, hk, hJs, hnx⟩ := hid.out
    have hBs' : wr.cell? ⟨Bs, 0, none⟩ = some (.slice A xs.length cap) := (cell_block hnx.2 0).trans hBs
    by_cases hlt : k < xs.length
    · obtain ⟨fn, tmps, assign, body, hy, hR⟩ := hY _ (bwAt xs hf k) wr hJs (by rw [bwUp_length]; exact hlt)
      rw [show bwAt xs hf k = bwI xs hf x by unfold bwAt; rw [hx]] at hy
      dsimp only [bxs, bwI] at hy
      have p0 : 0 ≤ x := by omega
      have p1 : x < (xs.length : Int) := by omega
      obtain ⟨ad, rfl, hx0, hx1⟩ := at_T39 hC x p0 p1
      have hb := hW0.trans hnx.1
      replace hx0 := (hb.cell (World.block_lt_of_cell? w0 _ hx0)).trans hx0
      replace hx1 := (hb.cell (World.block_lt_of_cell? w0 _ hx1)).trans hx1
      have hxx := Lib.hid hx
      clear hx
      gi_wp2
      refine hR.mono ?_
      rintro e W3 (⟨rfl, hJ3, hk3⟩ | ⟨rfl, hJx3⟩)
      · gi_wp2
        go_roundw
        case rel =>
          have h1 := hxx.out
          exact ⟨_, rfl, Lib.hid ⟨k + 1, by have : wrap64 (x - 1) = x - 1 := by unfold wrap64; omega
                                            first | omega | (simp [this]; omega), by omega, by rw [bwUp_succ]; exact hJ3, hnx.trans hk3⟩⟩
        case measure =>
          have : wrap64 (x - 1) = x - 1 := by unfold wrap64; omega
          simp [intOf, this]; omega
      · gi_wp2
        refine bodyPost_ret (results_none rfl _ _ _) rfl ?_
        exact ⟨⟨_, rfl⟩, .inr ⟨_, ⟨k + 1, by omega, (bwUp_succ _ _ _).symm⟩, hJx3⟩⟩
    · have hx' : x = -1 := by omega
      obtain rfl : k = xs.length := by omega
      subst hx'
      gi_wp2
      go_end0
      exact ⟨⟨_, rfl⟩, .inl ⟨_, rfl, hJs⟩⟩
set_option maxHeartbeats 1000000 in
theorem bw_in (F : Fence) (n : Nat) (h24 : F.fn 24) (hro : F.round = none) (a : Option Addr) (len cap : Nat) (w : World) :
    CallsIn F n Try.prog 24 #[.slice a len cap] w fun e w' => e = .returned (.func (.func 26) #[] #[.pointer (some ⟨w.heap.size, 0, none⟩)]) ∧ w' = w.alloc (.cells #[.slice a len cap] 22) := by
  refine callsIn_of_wp Try.func24 rfl h24 ?_ hro
  simp only [Try.ntmps24, List.size_toArray, List.length_cons, List.length_nil, Nat.reduceAdd, Nat.reduceSub, Array.replicate_succ, Array.replicate_zero, List.push_toArray, List.append_toArray, List.nil_append, List.cons_append]
  gi_wp2
  go_ret
  exact ⟨rfl, rfl⟩
theorem bw_stops (F : Fence) (n : Nat) (h26 : F.fn 26) (hro : F.round = none) (hn : 1 ≤ n) (Bs : Nat) (w0 w : World) (A : Option Addr) (cap : Nat) (xs : List S39) (hf : BFits xs) (hC : Kd.C k39 w0 A xs.length xs) (hreach : xs.length ≤ 5864062014806) (hBs : Bs < w.heap.size) (hw0 : Below w0.heap.size w0 w)
    (hc : w.cell? ⟨Bs, 0, none⟩ = some (.slice A xs.length cap)) :
    SeqStopsK F n Try.prog 26 #[.pointer (some ⟨Bs, 0, none⟩)] bxs (KpB w0.heap.size Bs) (fun ys => ys = bwUp xs hf xs.length) (fun _ => True) xs.length w := fun l J Jx W hW _ _ hY h0 => by
  refine (bw1_in F n h26 hro hn l Bs w0 A cap xs hf hC hreach J Jx hY W (hw0.trans (hW.mono hw0.size)) ((hW.cell (p := ⟨Bs, 0, none⟩) hBs).trans hc) h0).mono ?_
  rintro e W' ⟨he, ⟨ys, rfl, hj⟩ | ⟨pre, ⟨k, hk, rfl⟩, hj⟩⟩
  · exact ⟨he, .inl ⟨_, rfl, hj⟩⟩
  · exact ⟨he, .inr ⟨_, trivial, hj⟩⟩

/-! ### byText -/
/-- one blob laid in -/
def btPut (D : DataW Unit) (b : S39) : DataW Unit := D.put (.string b.f1.data.toList) (.lit (.int .i64 b.f0))
/-- the map of the texts: the first blob's ID at each -/
def btMap : List S39 → DataW Unit
  | [] => .map []
  | b :: r => btPut (btMap r) b
/-- what has come so far, laid in -/
def btUp (ys : List BX) : DataW Unit := ys.foldl (fun D x => btPut D x.1.2) (.map [])
theorem btUp_snoc (ys : List BX) (x : BX) : btUp (ys ++ [x]) = btPut (btUp ys) x.1.2 := by simp [btUp]
theorem btUp_drop (xs : List S39) (h : BFits xs) : ∀ k, k ≤ xs.length → btUp (bwUp xs h k) = btMap (xs.drop (xs.length - k))
  | 0, _ => by simp [bwUp, btUp, btMap]
  | k + 1, hk => by
    rw [bwUp_succ, btUp_snoc, btUp_drop xs h k (by omega)]
    have hi : xs.length - (k + 1) < xs.length := by omega
    rw [List.drop_eq_getElem_cons hi, show xs.length - (k + 1) + 1 = xs.length - k by omega]
    show btPut (btMap (xs.drop (xs.length - k))) (rd_T39 xs ((xs.length : Int) - 1 - k)) = btPut (btMap (xs.drop (xs.length - k))) xs[xs.length - (k + 1)]
    congr 1
    unfold rd_T39
    rw [show ((xs.length : Int) - 1 - k).toNat = xs.length - (k + 1) by omega, List.getD_eq_getElem?_getD, List.getElem?_eq_getElem hi]
    rfl
theorem btUp_all (xs : List S39) (h : BFits xs) : btUp (bwUp xs h xs.length) = btMap xs := by
  rw [btUp_drop xs h xs.length (Nat.le_refl _), Nat.sub_self, List.drop_zero]

set_option maxRecDepth 100000 in
set_option maxHeartbeats 4000000 in
theorem bytext_in (F : Fence) (n : Nat) (h19 : F.fn 19) (h24 : F.fn 24) (h26 : F.fn 26) (hro : F.round = none) (hn : 4 ≤ n) (nx : Int) (A : Option Addr) (cap : Nat) (xs : List S39) (w : World) (hf : BFits xs) (hC : Kd.C k39 w A xs.length xs) (hreach : xs.length ≤ 5864062014806) :
    CallsIn F n Try.prog 19 #[.agg #[.int .i64 nx, .slice A xs.length cap]] w fun e W' => ∃ m, e = .returned (.map (some m)) ∧ W'.ownsMap Try.prog 9 (plainElem (H := Unit) Try.prog 3) m xs.length (btMap xs) ∧ Below w.heap.size w W' := by
  have h1 : 1 ≤ n := by omega
  have hmm := @run_makeMap Try.prog
  refine callsIn_of_wp_marks Try.func19 rfl h19 ?_ hro
  simp only [Try.ntmps19, List.size_toArray, List.length_cons, List.length_nil, Nat.reduceAdd, Nat.reduceSub, Array.replicate_succ, Array.replicate_zero, List.push_toArray, List.append_toArray, List.nil_append, List.cons_append]
  gi_wp2_with (gi_at_call 24; refine (bw_in F (n - 1) h24 hro _ _ _ _).mono ?_; rintro e w' ⟨rfl, rfl⟩)
  have hm0 := World.ownsMap_made (w.alloc (.cells #[.int .i64 nx, .slice A xs.length cap] 24)) Try.prog 9 (plainElem (H := Unit) Try.prog 3)
  have bI := (Boxed.new ((w.alloc (.cells #[.int .i64 nx, .slice A xs.length cap] 24)).alloc (.map #[] 0)) 45 (.map (some (w.heap.size + 1)))).alloc (.cells #[.slice A xs.length cap] 22)
  simp only [World.size_alloc] at bI hm0
  have hm1 := (hm0.alloc (.cells #[.map (some (w.heap.size + 1))] 45)).alloc (.cells #[.slice A xs.length cap] 22)
  have bS := Boxed.new (((w.alloc (.cells #[.int .i64 nx, .slice A xs.length cap] 24)).alloc (.map #[] 0)).alloc (.cells #[.map (some (w.heap.size + 1))] 45)) 22 (.slice A xs.length cap)
  simp only [World.size_alloc] at bS
  have hB0 : Below w.heap.size w ((((w.alloc (.cells #[.int .i64 nx, .slice A xs.length cap] 24)).alloc (.map #[] 0)).alloc (.cells #[.map (some (w.heap.size + 1))] 45)).alloc (.cells #[.slice A xs.length cap] 22)) :=
    ((((Below.refl _ w).alloc (Nat.le_refl _) _).alloc (by simp) _).alloc (by simp; omega) _).alloc (by simp; omega) _
  have hsz : ((((w.alloc (.cells #[.int .i64 nx, .slice A xs.length cap] 24)).alloc (.map #[] 0)).alloc (.cells #[.map (some (w.heap.size + 1))] 45)).alloc (.cells #[.slice A xs.length cap] 22)).heap.size = w.heap.size + 4 := by simp
  generalize hW0 : ((((w.alloc (.cells #[.int .i64 nx, .slice A xs.length cap] 24)).alloc (.map #[] 0)).alloc (.cells #[.map (some (w.heap.size + 1))] 45)).alloc (.cells #[.slice A xs.length cap] 22)) = W0 at *
  refine wpIn_rangeFunc_ownH hro h1 (gf := 26) (lb := #[.pointer (some ⟨w.heap.size + 1 + 1 + 1, 0, none⟩)]) rfl h26 (enters_of Try.func26 (by kernel_rfl) rfl)
    (bw_stops F (n - 1) h26 hro (by omega) (w.heap.size + 1 + 1 + 1) w W0 A cap xs hf hC hreach (by omega) hB0 bS.cell) KpB.trans (KpB.book (by omega) (by omega)) (Below.refl _ _) (fun _ => rfl)
    (fun pre W => (Boxed W (w.heap.size + 1 + 1) 45 (.map (some (w.heap.size + 1))) ∧ W.ownsMap Try.prog 9 (plainElem (H := Unit) Try.prog 3) (w.heap.size + 1) pre.length (btUp pre)) ∧ Below w.heap.size w W ∧ w.heap.size + 4 ≤ W.heap.size)
    (fun _ _ _ => False)
    (OwnFrom.and (OwnFrom.and (Own.from (boxed_own _ _ _) _) (fun s A B row hs hg hr => hs.kept hg (fun e => by have := (hr _ e.symm).1; omega))) (OwnFrom.and (ownFrom_below (Nat.le_refl _) (by omega)) (fun s A B row hs hg hr => Nat.le_trans hs hg.size)))
    (fun _ _ _ _ _ hs _ _ => hs)
    ⟨⟨bI, hm1⟩, hB0, by omega⟩
    (fun x a' W => ∃ Bx, w.heap.size + 4 ≤ Bx ∧ W.heap[Bx]? = some (.cells #[.int .i64 x.1.2.f0, .string x.1.2.f1] 39 (0, 0)) ∧ a' = { tmps := #[.agg #[.int .i64 nx, .slice A xs.length cap], .pointer (some ⟨w.heap.size, 0, none⟩), .map none, .pointer (some ⟨w.heap.size + 1 + 1, 0, none⟩), undef, .pointer (some ⟨Bx, 0, none⟩), .map (some (w.heap.size + 1)), .pointer (some ⟨w.heap.size, 1, none⟩), .slice A xs.length cap, .func (.func 26) #[] #[.pointer (some ⟨w.heap.size + 1 + 1 + 1, 0, none⟩)], .int .i64 x.1.1, .agg #[.int .i64 x.1.2.f0, .string x.1.2.f1], undef, undef, undef, undef, undef, undef], defers := [] })
    (fun x a' _ X Y row hs hg hr => by
      obtain ⟨Bx, e1, e2, e3⟩ := hs
      refine ⟨Bx, e1, ?_, e3⟩
      rw [← e2]
      refine hg.block Bx (Array.getElem?_eq_some_iff.1 e2).1 (fun e => ?_)
      obtain ⟨_, o, ho, hc⟩ := hr Bx e.symm
      rw [e2] at ho
      cases ho
      simp [Obj.isCells] at hc)
    ?assign ?body ?done ?stop
  case assign =>
    rintro l pre x W K ⟨⟨bI1, hm2⟩, hB1, hS1⟩ hK
    unfold bxs
    gi_wp2
    exact hK _ _ ((KeepsOthers.alloc _ _).from _) ⟨(Below.refl _ W).alloc hB1.size _, Below.heap_alloc W _ _ (by omega)⟩ ⟨⟨bI1.alloc _, hm2.alloc _⟩, hB1.alloc hB1.size _, by rw [World.size_alloc]; omega⟩ ⟨W.heap.size, hS1, World.alloc_heap_new W _, rfl⟩
  case body =>
    rintro l pre x a' W hl ⟨r, hr⟩ ⟨⟨bI1, hm2⟩, hB1, hS1⟩ ⟨Bx, hBx, bX, rfl⟩ hlt
    have cI := bI1.cell
    have cX0 : W.cell? ⟨Bx, 0, none⟩ = some (.int .i64 x.1.2.f0) := by simp [World.cell?, bX]
    have cX1 : W.cell? ⟨Bx, 1, none⟩ = some (.string x.1.2.f1) := by simp [World.cell?, bX]
    have hkey := WideMaps.keyOf_string_mk Try.underlying9 x.2.2
    gi_wp2_with (gi_at_mapUpdate; refine wpListIn_mapUpdate_own _ rfl _ _ _ 45 rfl 9 3 (Maps.string_keyed Try.underlying9) Try.underlying45 _ (w.heap.size + 1) pre.length _ rfl hm2 (by simp only [maxLen]; omega) _ _ _ rfl rfl hkey _ [] (plainElem_int Try.underlying3 x.2.1) ?_; intro w1 hown1 hgrow1)
    obtain ⟨es, ck, hh, _⟩ := hm2
    exact ⟨KeepsFrom.of_grownBy hgrow1 (fun j e => by cases e; omega), ⟨(Below.refl _ W).grown hgrow1 hB1.size (fun k e => by cases e; omega), hgrow1.block _ (by omega) (fun e => by have := Option.some.inj e; omega)⟩,
      ⟨bI1.kept hgrow1 (fun e => by have := Option.some.inj e; omega), by rw [btUp_snoc, List.length_append]; exact hown1⟩, hB1.grown hgrow1 hB1.size (fun k e => by cases e; omega), Nat.le_trans hS1 hgrow1.size⟩
  case done =>
    rintro D ys W hD rfl ⟨⟨bI1, hm2⟩, hB1, hS1⟩ hK
    have cI := bI1.cell
    gi_wp2
    refine ⟨by simp, .inl ⟨_, _, rfl, run_takeDeferred hK, ?_⟩⟩
    refine ⟨_, results_tmp rfl _ _ _, _, rfl, ?_, hB1.trans (belowK_b (w := w) (Nat.le_refl _) W D _ _ (by omega) hK rfl rfl)⟩
    have hm3 := hm2.kept (grownBy_putObj' W D (.deferred none)) (fun e => by have := Option.some.inj e; omega)
    rw [btUp_all, bwUp_length] at hm3
    exact hm3
  case stop =>
    rintro D c pre W _ _ h _
    exact h.elim
end BackIter
/-- .. as a plain call, and what its size and its look-ups are -/
theorem bytext_calls (nx : Int) (A : Option Addr) (cap : Nat) (xs : List S39) (w : World) (hf : BFits xs) (hC : Kd.C k39 w A xs.length xs) (hreach : xs.length ≤ 5864062014806) :
    Calls Try.prog 19 #[.agg #[.int .i64 nx, .slice A xs.length cap]] w fun e W' => ∃ m, e = .returned (.map (some m)) ∧ W'.ownsMap Try.prog 9 (plainElem (H := Unit) Try.prog 3) m xs.length (btMap xs) ∧ Below w.heap.size w W' :=
  callsIn_wide.1 (bytext_in Fence.wide 4 trivial trivial trivial rfl (Nat.le_refl _) nx A cap xs w hf hC hreach)
/-! ### plain words -/
def btHas (l : List S39) (t : ByteArray) : Bool := l.any (fun b => decide (b.f1 = t))
def btCount : List S39 → Nat
  | [] => 0
  | b :: r => if btHas r b.f1 then btCount r else btCount r + 1
def btId : List S39 → ByteArray → Int
  | [], _ => 0
  | b :: r, t => if b.f1 = t then b.f0 else btId r t
theorem ba_lit {a b : ByteArray} : (Lit.string a.data.toList = Lit.string b.data.toList) ↔ a = b := by
  constructor
  · intro h
    obtain ⟨⟨l⟩⟩ := a
    obtain ⟨⟨m⟩⟩ := b
    simp at h
    rw [h]
  · rintro rfl; rfl
theorem btMap_tidy : ∀ l : List S39, Maps.Tidy (btMap l)
  | [] => ⟨[], rfl, List.Pairwise.nil⟩
  | b :: r => (btMap_tidy r).put (show WideAt.IsKeyLit (.string _) from trivial) _
theorem btMap_has (t : ByteArray) : ∀ l : List S39, Maps.has (btMap l) (.string t.data.toList) = btHas l t
  | [] => rfl
  | b :: r => by
    show Maps.has ((btMap r).put (.string b.f1.data.toList) _) _ = _
    obtain ⟨es, he, _⟩ := btMap_tidy r
    by_cases h : b.f1 = t
    · rw [h, Maps.has_put_same ⟨es, he⟩ (show WideAt.IsKeyLit (.string _) from trivial)]
      simp [btHas, h]
    · rw [Maps.has_put_other (fun e => h (ba_lit.1 e).symm), btMap_has t r]
      simp [btHas, h]
theorem btMap_size : ∀ l : List S39, Maps.size (btMap l) = btCount l
  | [] => rfl
  | b :: r => by
    show Maps.size ((btMap r).put (.string b.f1.data.toList) _) = _
    rw [Maps.size_put (btMap_tidy r), btMap_has, btMap_size r]
    rfl
theorem btMap_at (t : ByteArray) : ∀ l : List S39, (btMap l).atKey (.string t.data.toList) (.lit (.int .i64 0)) = .lit (.int .i64 (btId l t))
  | [] => rfl
  | b :: r => by
    show ((btMap r).put (.string b.f1.data.toList) _).atKey _ _ = _
    obtain ⟨es, he, _⟩ := btMap_tidy r
    by_cases h : b.f1 = t
    · rw [h, Maps.atKey_put_same ⟨es, he⟩ (show WideAt.IsKeyLit (.string _) from trivial)]
      simp [btId, h]
    · rw [Maps.atKey_put_other (fun e => h (ba_lit.1 e).symm), btMap_at t r]
      simp [btId, h]
end Go.Proofs.Ytgeejlfifeinmaa.PAll
