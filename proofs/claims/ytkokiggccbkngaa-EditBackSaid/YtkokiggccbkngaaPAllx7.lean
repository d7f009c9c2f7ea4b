-- Written by this session's program hprint.py over the kit's print. Not trusted: Lean checks it.
import Derived.Test.YtkokiggccbkngaaPAllx0
import Derived.Test.YtkokiggccbkngaaPAllx2
import Derived.Test.YtkokiggccbkngaaPAllx5
import Derived.Test.YtkokiggccbkngaaPAllx6
import Derived.Lib.Hide
import Derived.Sort.Grow
import Derived.RangeFuncRecord
import Derived.Test.YtkokiggccbkngaaShelf
import Derived.Shelf.Spec.SlicesGrow
import Derived.Shelf.SlSortCmp.NoneTotal
namespace Go.Proofs.Ytkokiggccbkngaa.PAll
open Go.RowKit Go.Proofs.YtkokiggccbkngaaW.PrintWords Go.Proofs.YtkokiggccbkngaaW.PrintLast Go.Proofs.YtkokiggccbkngaaW.PrintMore
attribute [local go_sem] max2_int min2_int max_two min_two max_three min_three max_four min_four   -- for this text's walks alone
set_option linter.unusedVariables false
set_option linter.unusedSimpArgs false

--HAND edit_join.tpl
--HANDIMPORT Derived.Lib.Hide
--HANDIMPORT Derived.Sort.Grow
--HANDIMPORT Derived.RangeFuncRecord
--HANDIMPORT Derived.Test.YtkokiggccbkngaaShelf
--HANDIMPORT Derived.Shelf.Spec.SlicesGrow
--HANDIMPORT Derived.Shelf.SlSortCmp.NoneTotal

/-! ### edit_Join: function 22 -/
def cmpI (x y : Int) : Int := if x < y then -1 else if x > y then 1 else 0
def cmpS (x y : ByteArray) : Int := if Op.bytesLess x.toList y.toList = true then -1 else if x.toList = y.toList then 0 else 1
def or3 (x y z : Int) : Int := if x = 0 then (if y = 0 then z else y) else x
def ordE (x y : S40) : Int := or3 (cmpI x.f0 y.f0) (cmpI x.f1 y.f1) (cmpS x.f2 y.f2)
theorem cmpI_f (x y : Int) : cmp_Compare_int.f x y = some (cmpI x y) := by
  unfold cmp_Compare_int.f cmpI
  simp only [cmp_isNaN_int.f, bne_self_eq_false, Option.bind_some, Bool.false_eq_true, if_false]
  split
  · rfl
  · split <;> rfl
theorem orE_f (a b c : Int) : cmp_Or_int.f 5 [a, b, c] = some (or3 a b c) := by
  unfold cmp_Or_int.f or3
  have e1 : wrap64 1 = 1 := by unfold wrap64; omega
  have e2 : wrap64 2 = 2 := by unfold wrap64; omega
  have e3 : wrap64 3 = 3 := by unfold wrap64; omega
  by_cases h1 : a = 0
  · by_cases h2 : b = 0
    · by_cases h3 : c = 0
      · simp [cmp_Or_int.l0, rd, h1, h2, h3, e1, e2, e3]
      · simp [cmp_Or_int.l0, rd, h1, h2, h3, e1, e2, e3]
    · simp [cmp_Or_int.l0, rd, h1, h2, e1, e2, e3]
  · simp [cmp_Or_int.l0, rd, h1]
def encE (x : S40) : List Value := [.int .i64 x.f0, .int .i64 x.f1, .string x.f2]
theorem ints3 {w : World} {b t : Nat} {x y z : Int} (hn : w.heap[b]? = some (.cells #[.int .i64 x, .int .i64 y, .int .i64 z] t (0, 0))) : Kd.C (Kd.int .i64) w (some ⟨b, 0, none⟩) ([x, y, z] : List Int).length [x, y, z] := by
  refine ⟨rfl, by simp, fun _ => ⟨_, rfl, fun j p hj => ⟨[.int .i64 p], rfl, rfl, fun i u hu => ?_⟩⟩⟩
  match i, hu with
  | 0, hu =>
    obtain rfl : Value.int .i64 p = u := by simpa using hu
    match j, hj with
    | 0, hj => obtain rfl : x = p := by simpa using hj
               exact blk_cell hn 0
    | 1, hj => obtain rfl : y = p := by simpa using hj
               exact blk_cell hn 1
    | 2, hj => obtain rfl : z = p := by simpa using hj
               exact blk_cell hn 2
theorem or3_calls (b : Nat) (x y z : Int) (w : World) (hC : Kd.C (Kd.int .i64) w (some ⟨b, 0, none⟩) ([x, y, z] : List Int).length [x, y, z]) :
    Calls Try.prog 32 #[.slice (some ⟨b, 0, none⟩) 3 3] w fun e w' => e = .returned (.int .i64 (or3 x y z)) ∧ Drawn0 w w' :=
  cmp_Or_int.calls 5 (some ⟨b, 0, none⟩) 3 [x, y, z] _ w hC (by simp) (orE_f x y z)
theorem grow_drewN (w : World) (os : Array Obj) : ∀ n, (Sort.grow w os).drewN n = Sort.grow (w.drewN n) os := fun _ => rfl
theorem grow_chain (W : World) (q : Nat) (os : Array Obj) (o : Obj) (a b c d : Nat) : (((((Sort.grow (W.drewN q) os).drew.drewN a).drewN b).drewN c).alloc o).drewN d = Sort.grow (W.drewN (q + 1 + a + b + c + d)) (os ++ #[o]) := by
  have e1 : (Sort.grow (W.drewN q) os).drew = Sort.grow (W.drewN (q + 1)) os := rfl
  rw [e1, grow_drewN, grow_drewN, grow_drewN, Sort.alloc_eq_grow, Sort.grow_grow, grow_drewN]
  simp only [World.drewN_drewN]
set_option maxRecDepth 100000 in
set_option maxHeartbeats 4000000 in
theorem order_calls (x y : S40) (W : World) : Calls Try.prog 26 #[.agg (encE x).toArray, .agg (encE y).toArray] W fun e w' => e = .returned (.int .i64 (ordE x y)) ∧ ∃ q os, w' = Sort.grow (W.drewN q) os := by
  unfold encE
  go_enter Try.func26, Try.ntmps26
  have HI := Lib.hid (show ∃ q os, (W.alloc (.cells #[.int .i64 x.f0, .int .i64 x.f1, .string x.f2] 40)).alloc (.cells #[.int .i64 y.f0, .int .i64 y.f1, .string y.f2] 40) = Sort.grow (W.drewN q) os from ⟨0, _, by rw [Sort.alloc_eq_grow, Sort.alloc_eq_grow, Sort.grow_grow]; rfl⟩)
  have HB0 := Lib.hid (show ((W.alloc (.cells #[.int .i64 x.f0, .int .i64 x.f1, .string x.f2] 40)).alloc (.cells #[.int .i64 y.f0, .int .i64 y.f1, .string y.f2] 40)).heap[W.heap.size]? = some (.cells #[.int .i64 x.f0, .int .i64 x.f1, .string x.f2] 40 (0, 0)) from blk_alloc (World.alloc_heap_new W _) _)
  have HB1 := Lib.hid (show ((W.alloc (.cells #[.int .i64 x.f0, .int .i64 x.f1, .string x.f2] 40)).alloc (.cells #[.int .i64 y.f0, .int .i64 y.f1, .string y.f2] 40)).heap[W.heap.size + 1]? = some (.cells #[.int .i64 y.f0, .int .i64 y.f1, .string y.f2] 40 (0, 0)) from by have := World.alloc_heap_new (W.alloc (.cells #[.int .i64 x.f0, .int .i64 x.f1, .string x.f2] 40)) (.cells #[.int .i64 y.f0, .int .i64 y.f1, .string y.f2] 40); rwa [World.size_alloc] at this)
  go_wp2_with fail
  generalize (W.alloc (.cells #[.int .i64 x.f0, .int .i64 x.f1, .string x.f2] 40)).alloc (.cells #[.int .i64 y.f0, .int .i64 y.f1, .string y.f2] 40) = wr at HI HB0 HB1 ⊢
  have hx00 : wr.cell? ⟨W.heap.size, 0, none⟩ = some (.int .i64 x.f0) := blk_cell HB0.out 0
  have hx01 : wr.cell? ⟨W.heap.size, 1, none⟩ = some (.int .i64 x.f1) := blk_cell HB0.out 1
  have hx02 : wr.cell? ⟨W.heap.size, 2, none⟩ = some (.string x.f2) := blk_cell HB0.out 2
  have hx10 : wr.cell? ⟨W.heap.size + 1, 0, none⟩ = some (.int .i64 y.f0) := blk_cell HB1.out 0
  have hx11 : wr.cell? ⟨W.heap.size + 1, 1, none⟩ = some (.int .i64 y.f1) := blk_cell HB1.out 1
  have hx12 : wr.cell? ⟨W.heap.size + 1, 2, none⟩ = some (.string y.f2) := blk_cell HB1.out 2
  refine start_ (n := 18) (S := fun w' => w'.cell? ⟨W.heap.size, 0, none⟩ = some (.int .i64 x.f0) ∧ w'.cell? ⟨W.heap.size, 1, none⟩ = some (.int .i64 x.f1) ∧ w'.cell? ⟨W.heap.size, 2, none⟩ = some (.string x.f2) ∧ w'.cell? ⟨W.heap.size + 1, 0, none⟩ = some (.int .i64 y.f0) ∧ w'.cell? ⟨W.heap.size + 1, 1, none⟩ = some (.int .i64 y.f1) ∧ w'.cell? ⟨W.heap.size + 1, 2, none⟩ = some (.string y.f2)) (ds := []) #[false, false, false, false, false, false, false, false, false, false, false, false, false, false, false, false, false, false] (by kernel_rfl) rfl rfl ⟨hx00, hx01, hx02, hx10, hx11, hx12⟩ (fun hHeld => ?_)
  refine pure_ (i := 0) (N := some 5) (v := ?_) (a' := ?_) #[true, false, false, false, false, false, false, false, false, false, false, false, false, false, false, false, false, false] rfl rfl (by kernel_rfl) (fun _ _ _ h => h) (Or.inl ⟨by rfl, ?_⟩) ?_ ?_
  rotate_left
  · intro w'
    go_simp
    with_reducible rfl
  rotate_left
  · simp only [Act.put, List.setIfInBounds_toArray, List.set_cons_zero, List.set_cons_succ, i64_w, i32_w]
    rfl
  refine pure_ (i := 2) (N := some 7) (v := ?_) (a' := ?_) #[true, false, true, false, false, false, false, false, false, false, false, false, false, false, false, false, false, false] rfl rfl (by kernel_rfl) (fun _ _ _ h => h) (Or.inl ⟨by rfl, ?_⟩) ?_ ?_
  rotate_left
  · intro w'
    go_simp
    with_reducible rfl
  rotate_left
  · simp only [Act.put, List.setIfInBounds_toArray, List.set_cons_zero, List.set_cons_succ, i64_w, i32_w]
    rfl
  refine pure_ (i := 5) (N := some 10) (v := ?_) (a' := ?_) #[true, false, true, false, false, true, false, false, false, false, false, false, false, false, false, false, false, false] rfl rfl (by kernel_rfl) (fun _ _ _ h => h) (Or.inl ⟨by rfl, ?_⟩) ?_ ?_
  rotate_left
  · intro w'
    go_simp
    with_reducible rfl
  rotate_left
  · simp only [Act.put, List.setIfInBounds_toArray, List.set_cons_zero, List.set_cons_succ, i64_w, i32_w]
    rfl
  refine pure_ (i := 7) (N := some 12) (v := ?_) (a' := ?_) #[true, false, true, false, false, true, false, true, false, false, false, false, false, false, false, false, false, false] rfl rfl (by kernel_rfl) (fun _ _ _ h => h) (Or.inl ⟨by rfl, ?_⟩) ?_ ?_
  rotate_left
  · intro w'
    go_simp
    with_reducible rfl
  rotate_left
  · simp only [Act.put, List.setIfInBounds_toArray, List.set_cons_zero, List.set_cons_succ, i64_w, i32_w]
    rfl
  refine pure_ (i := 10) (N := some 15) (v := ?_) (a' := ?_) #[true, false, true, false, false, true, false, true, false, false, true, false, false, false, false, false, false, false] rfl rfl (by kernel_rfl) (fun _ _ _ h => h) (Or.inl ⟨by rfl, ?_⟩) ?_ ?_
  rotate_left
  · intro w'
    go_simp
    with_reducible rfl
  rotate_left
  · simp only [Act.put, List.setIfInBounds_toArray, List.set_cons_zero, List.set_cons_succ, i64_w, i32_w]
    rfl
  refine pure_ (i := 12) (N := some 17) (v := ?_) (a' := ?_) #[true, false, true, false, false, true, false, true, false, false, true, false, true, false, false, false, false, false] rfl rfl (by kernel_rfl) (fun _ _ _ h => h) (Or.inl ⟨by rfl, ?_⟩) ?_ ?_
  rotate_left
  · intro w'
    go_simp
    with_reducible rfl
  rotate_left
  · simp only [Act.put, List.setIfInBounds_toArray, List.set_cons_zero, List.set_cons_succ, i64_w, i32_w]
    rfl
  refine take_ (i := 1) (N := some 6) (v := ?_) (a' := ?_) #[true, true, true, false, false, true, false, true, false, false, true, false, true, false, false, false, false, false] rfl rfl (by kernel_rfl) (fun _ _ _ h => h) (Or.inl ⟨by rfl, ?_⟩) hHeld ?_ ?_
  rotate_left
  · rintro w' ⟨s0, s1, s2, s3, s4, s5⟩
    go_simp
    with_reducible rfl
  rotate_left
  · simp only [Act.put, List.setIfInBounds_toArray, List.set_cons_zero, List.set_cons_succ, i64_w, i32_w]
    rfl
  refine take_ (i := 3) (N := some 8) (v := ?_) (a' := ?_) #[true, true, true, true, false, true, false, true, false, false, true, false, true, false, false, false, false, false] rfl rfl (by kernel_rfl) (fun _ _ _ h => h) (Or.inl ⟨by rfl, ?_⟩) hHeld ?_ ?_
  rotate_left
  · rintro w' ⟨s0, s1, s2, s3, s4, s5⟩
    go_simp
    with_reducible rfl
  rotate_left
  · simp only [Act.put, List.setIfInBounds_toArray, List.set_cons_zero, List.set_cons_succ, i64_w, i32_w]
    rfl
  refine take_ (i := 6) (N := some 11) (v := ?_) (a' := ?_) #[true, true, true, true, false, true, true, true, false, false, true, false, true, false, false, false, false, false] rfl rfl (by kernel_rfl) (fun _ _ _ h => h) (Or.inl ⟨by rfl, ?_⟩) hHeld ?_ ?_
  rotate_left
  · rintro w' ⟨s0, s1, s2, s3, s4, s5⟩
    go_simp
    with_reducible rfl
  rotate_left
  · simp only [Act.put, List.setIfInBounds_toArray, List.set_cons_zero, List.set_cons_succ, i64_w, i32_w]
    rfl
  refine take_ (i := 8) (N := some 13) (v := ?_) (a' := ?_) #[true, true, true, true, false, true, true, true, true, false, true, false, true, false, false, false, false, false] rfl rfl (by kernel_rfl) (fun _ _ _ h => h) (Or.inl ⟨by rfl, ?_⟩) hHeld ?_ ?_
  rotate_left
  · rintro w' ⟨s0, s1, s2, s3, s4, s5⟩
    go_simp
    with_reducible rfl
  rotate_left
  · simp only [Act.put, List.setIfInBounds_toArray, List.set_cons_zero, List.set_cons_succ, i64_w, i32_w]
    rfl
  refine take_ (i := 11) (N := some 16) (v := ?_) (a' := ?_) #[true, true, true, true, false, true, true, true, true, false, true, true, true, false, false, false, false, false] rfl rfl (by kernel_rfl) (fun _ _ _ h => h) (Or.inl ⟨by rfl, ?_⟩) hHeld ?_ ?_
  rotate_left
  · rintro w' ⟨s0, s1, s2, s3, s4, s5⟩
    go_simp
    with_reducible rfl
  rotate_left
  · simp only [Act.put, List.setIfInBounds_toArray, List.set_cons_zero, List.set_cons_succ, i64_w, i32_w]
    rfl
  refine take_ (i := 13) (N := some 18) (v := ?_) (a' := ?_) #[true, true, true, true, false, true, true, true, true, false, true, true, true, true, false, false, false, false] rfl rfl (by kernel_rfl) (fun _ _ _ h => h) (Or.inl ⟨by rfl, ?_⟩) hHeld ?_ ?_
  rotate_left
  · rintro w' ⟨s0, s1, s2, s3, s4, s5⟩
    go_simp
    with_reducible rfl
  rotate_left
  · simp only [Act.put, List.setIfInBounds_toArray, List.set_cons_zero, List.set_cons_succ, i64_w, i32_w]
    rfl
  refine one_ (i := 4) (N := some 9) #[true, true, true, true, true, true, true, true, true, false, true, true, true, true, false, false, false, false] rfl rfl (by kernel_rfl) (by decide) (fun K hK => ?_)
  refine goes_ Try.func33 (by kernel_rfl) rfl #[.int .i64 x.f0, .int .i64 y.f0] (by rfl) rfl rfl (by simp only [List.map_toArray, List.map_cons, List.map_nil]; rfl) ?_
  with_reducible refine (cmp_Compare_int.calls x.f0 y.f0 (cmpI x.f0 y.f0) _ (cmpI_f _ _)).mono ?_
  rintro e w1 ⟨rfl, ⟨nd1, rfl⟩⟩
  refine ⟨_, rfl, ?_⟩
  refine hK.out _ _ ⟨(blk_cell (blk_drewN (blk_drew HB0.out) _) 0), (blk_cell (blk_drewN (blk_drew HB0.out) _) 1), (blk_cell (blk_drewN (blk_drew HB0.out) _) 2), (blk_cell (blk_drewN (blk_drew HB1.out) _) 0), (blk_cell (blk_drewN (blk_drew HB1.out) _) 1), (blk_cell (blk_drewN (blk_drew HB1.out) _) 2)⟩ (fun hHeld => ?_)
  clear hK K
  refine norm_ (a' := ?_) ?_ ?_
  rotate_left
  · show Act.put _ (some 9) _ = _
    simp only [Act.put, List.setIfInBounds_toArray, List.set_cons_zero, List.set_cons_succ, i64_w, i32_w]
    rfl
  refine one_ (i := 9) (N := some 14) #[true, true, true, true, true, true, true, true, true, true, true, true, true, true, false, false, false, false] rfl rfl (by kernel_rfl) (by decide) (fun K hK => ?_)
  refine goes_ Try.func33 (by kernel_rfl) rfl #[.int .i64 x.f1, .int .i64 y.f1] (by rfl) rfl rfl (by simp only [List.map_toArray, List.map_cons, List.map_nil]; rfl) ?_
  with_reducible refine (cmp_Compare_int.calls x.f1 y.f1 (cmpI x.f1 y.f1) _ (cmpI_f _ _)).mono ?_
  rintro e w1 ⟨rfl, ⟨nd2, rfl⟩⟩
  refine ⟨_, rfl, ?_⟩
  refine hK.out _ _ ⟨(blk_cell (blk_drewN (blk_drewN (blk_drew HB0.out) _) _) 0), (blk_cell (blk_drewN (blk_drewN (blk_drew HB0.out) _) _) 1), (blk_cell (blk_drewN (blk_drewN (blk_drew HB0.out) _) _) 2), (blk_cell (blk_drewN (blk_drewN (blk_drew HB1.out) _) _) 0), (blk_cell (blk_drewN (blk_drewN (blk_drew HB1.out) _) _) 1), (blk_cell (blk_drewN (blk_drewN (blk_drew HB1.out) _) _) 2)⟩ (fun hHeld => ?_)
  clear hK K
  refine norm_ (a' := ?_) ?_ ?_
  rotate_left
  · show Act.put _ (some 14) _ = _
    simp only [Act.put, List.setIfInBounds_toArray, List.set_cons_zero, List.set_cons_succ, i64_w, i32_w]
    rfl
  refine one_ (i := 14) (N := some 19) #[true, true, true, true, true, true, true, true, true, true, true, true, true, true, true, false, false, false] rfl rfl (by kernel_rfl) (by decide) (fun K hK => ?_)
  refine goes_ Try.func34 (by kernel_rfl) rfl #[.string x.f2, .string y.f2] (by rfl) rfl rfl (by simp only [List.map_toArray, List.map_cons, List.map_nil]; rfl) ?_
  with_reducible refine (cmp_Compare_string.calls x.f2 y.f2 (cmpS x.f2 y.f2) _ rfl).mono ?_
  rintro e w1 ⟨rfl, ⟨nd3, rfl⟩⟩
  refine ⟨_, rfl, ?_⟩
  refine hK.out _ _ ⟨(blk_cell (blk_drewN (blk_drewN (blk_drewN (blk_drew HB0.out) _) _) _) 0), (blk_cell (blk_drewN (blk_drewN (blk_drewN (blk_drew HB0.out) _) _) _) 1), (blk_cell (blk_drewN (blk_drewN (blk_drewN (blk_drew HB0.out) _) _) _) 2), (blk_cell (blk_drewN (blk_drewN (blk_drewN (blk_drew HB1.out) _) _) _) 0), (blk_cell (blk_drewN (blk_drewN (blk_drewN (blk_drew HB1.out) _) _) _) 1), (blk_cell (blk_drewN (blk_drewN (blk_drewN (blk_drew HB1.out) _) _) _) 2)⟩ (fun hHeld => ?_)
  clear hK K
  refine norm_ (a' := ?_) ?_ ?_
  rotate_left
  · show Act.put _ (some 19) _ = _
    simp only [Act.put, List.setIfInBounds_toArray, List.set_cons_zero, List.set_cons_succ, i64_w, i32_w]
    rfl
  refine one_ (i := 15) (N := some 20) #[true, true, true, true, true, true, true, true, true, true, true, true, true, true, true, true, false, false] rfl rfl (by kernel_rfl) (by decide) (fun K hK => ?_)
  refine value_ (w1 := (((wr.drew.drewN nd1).drewN nd2).drewN nd3).alloc (.cells #[.int .i64 (cmpI x.f0 y.f0), .int .i64 (cmpI x.f1 y.f1), .int .i64 (cmpS x.f2 y.f2)] 3)) (v := .slice (some ⟨wr.heap.size, 0, none⟩) 3 3) (by rfl) rfl ?_ ?_
  · go_simp
  have hC : Kd.C (Kd.int .i64) ((((wr.drew.drewN nd1).drewN nd2).drewN nd3).alloc (.cells #[.int .i64 (cmpI x.f0 y.f0), .int .i64 (cmpI x.f1 y.f1), .int .i64 (cmpS x.f2 y.f2)] 3)) (some ⟨wr.heap.size, 0, none⟩) ([cmpI x.f0 y.f0, cmpI x.f1 y.f1, cmpS x.f2 y.f2] : List Int).length [cmpI x.f0 y.f0, cmpI x.f1 y.f1, cmpS x.f2 y.f2] := ints3 (World.alloc_heap_new _ _)
  refine hK.out _ _ ⟨(blk_cell (blk_alloc (blk_drewN (blk_drewN (blk_drewN (blk_drew HB0.out) _) _) _) _) 0), (blk_cell (blk_alloc (blk_drewN (blk_drewN (blk_drewN (blk_drew HB0.out) _) _) _) _) 1), (blk_cell (blk_alloc (blk_drewN (blk_drewN (blk_drewN (blk_drew HB0.out) _) _) _) _) 2), (blk_cell (blk_alloc (blk_drewN (blk_drewN (blk_drewN (blk_drew HB1.out) _) _) _) _) 0), (blk_cell (blk_alloc (blk_drewN (blk_drewN (blk_drewN (blk_drew HB1.out) _) _) _) _) 1), (blk_cell (blk_alloc (blk_drewN (blk_drewN (blk_drewN (blk_drew HB1.out) _) _) _) _) 2)⟩ (fun hHeld => ?_)
  clear hK K
  refine norm_ (a' := ?_) ?_ ?_
  rotate_left
  · show Act.put _ (some 20) _ = _
    simp only [Act.put, List.setIfInBounds_toArray, List.set_cons_zero, List.set_cons_succ, i64_w, i32_w]
    rfl
  refine one_ (i := 16) (N := some 21) #[true, true, true, true, true, true, true, true, true, true, true, true, true, true, true, true, true, false] rfl rfl (by kernel_rfl) (by decide) (fun K hK => ?_)
  refine goes_ Try.func32 (by kernel_rfl) rfl #[.slice (some ⟨wr.heap.size, 0, none⟩) 3 3] (by rfl) rfl rfl (by simp only [List.map_toArray, List.map_cons, List.map_nil]; rfl) ?_
  with_reducible refine (or3_calls _ _ _ _ _ hC).mono ?_
  rintro e w1 ⟨rfl, ⟨nd4, rfl⟩⟩
  refine ⟨_, rfl, ?_⟩
  refine hK.out _ _ ⟨(blk_cell (blk_drewN (blk_alloc (blk_drewN (blk_drewN (blk_drewN (blk_drew HB0.out) _) _) _) _) _) 0), (blk_cell (blk_drewN (blk_alloc (blk_drewN (blk_drewN (blk_drewN (blk_drew HB0.out) _) _) _) _) _) 1), (blk_cell (blk_drewN (blk_alloc (blk_drewN (blk_drewN (blk_drewN (blk_drew HB0.out) _) _) _) _) _) 2), (blk_cell (blk_drewN (blk_alloc (blk_drewN (blk_drewN (blk_drewN (blk_drew HB1.out) _) _) _) _) _) 0), (blk_cell (blk_drewN (blk_alloc (blk_drewN (blk_drewN (blk_drewN (blk_drew HB1.out) _) _) _) _) _) 1), (blk_cell (blk_drewN (blk_alloc (blk_drewN (blk_drewN (blk_drewN (blk_drew HB1.out) _) _) _) _) _) 2)⟩ (fun hHeld => ?_)
  clear hK K
  refine norm_ (a' := ?_) ?_ ?_
  rotate_left
  · show Act.put _ (some 21) _ = _
    simp only [Act.put, List.setIfInBounds_toArray, List.set_cons_zero, List.set_cons_succ, i64_w, i32_w]
    rfl
  refine pure_ (i := 17) (N := some 4) (v := ?_) (a' := ?_) #[true, true, true, true, true, true, true, true, true, true, true, true, true, true, true, true, true, true] rfl rfl (by kernel_rfl) (fun _ _ _ h => h) (Or.inl ⟨by rfl, ?_⟩) ?_ ?_
  rotate_left
  · intro w'
    go_simp
    with_reducible rfl
  rotate_left
  · simp only [Act.put, List.setIfInBounds_toArray, List.set_cons_zero, List.set_cons_succ, i64_w, i32_w]
    rfl
  refine done_ (by kernel_rfl) ?_

  go_wp2
  go_ret
  refine ⟨rfl, ?_⟩
  obtain ⟨q, os, rfl⟩ := HI.out
  exact ⟨q + 1 + nd1 + nd2 + nd3 + nd4, os ++ #[_], grow_chain _ _ _ _ _ _ _ _⟩
theorem grow_nil_calls (n : Nat) (w : World) (hn : n ≤ 4398046511104) : Calls Try.prog 29 #[.slice none 0 0, .int .i64 (n : Int)] w fun e w' => ∃ v, e = .returned v ∧ Kd.R k40 40 w' w.heap.size (fun _ => True) v [] ∧ Below w.heap.size w w' := by
  by_cases h0 : n = 0
  · subst h0
    refine (Any8.slices_Grow_room Try.growE none 0 0 0 w (by omega) (by omega) (by omega) (by omega)).mono ?_
    rintro e w' ⟨rfl, rfl⟩
    exact ⟨_, rfl, Kd.R_nil _ _ _ _ _, Below.refl _ _⟩
  · obtain ⟨i0, hi, hzz⟩ := Option.map_eq_some_iff.1 info40
    simp only [Prod.mk.injEq] at hzz
    obtain ⟨hz0, hz1, hz2⟩ := hzz
    have hG := grownCap_le_maxLen w n 0 40 (by simp only [maxLen]; omega)
    have hge := grownCap_ge w n 0 40
    refine (Any8.slices_Grow_grow Try.growE i0 _ hi hz0 (by omega) none 0 0 n [] w (by omega) (by omega) (by rw [hz2]; omega) (by omega) (by simp) (fun _ => rfl) (fun a h => by cases h)).mono ?_
    rintro e w' ⟨rfl, rfl⟩
    simp only [Nat.zero_add]
    refine ⟨_, rfl, ⟨fun _ _ => trivial, [], ⟨rfl, .inr ⟨w.heap.size, grownCap w n 0 40, _, rfl, Nat.le_refl _, World.alloc_heap_new w.drew _, Nat.zero_le _, hG, ?_, rfl⟩⟩, rfl, fun j p hj => by simp at hj⟩, (below_drew (Below.refl _ _)).alloc (Nat.le_refl _) _⟩
    show _ = grownCap w n 0 40 * 3
    have hz : (Value.agg #[Value.int .i64 0, Value.int .i64 0, Value.string ⟨#[]⟩]).cells.size = 3 := rfl
    have e40 : Try.growE_ren.t 25 = 40 := rfl
    simp [Builtin.zeroCells, hz, e40]
    omega
set_option maxRecDepth 100000 in
set_option maxHeartbeats 4000000 in
theorem concat_calls (b T : Nat) (A B : Option Addr) (ca cb : Nat) (la lb : List S40) (w : World) (hb : w.heap[b]? = some (.cells #[.slice A la.length ca, .slice B lb.length cb] T (0, 0)))
    (hA : Kd.C k40 w A la.length la) (hB : Kd.C k40 w B lb.length lb) (hca : la.length ≤ ca) (hcb : lb.length ≤ cb) (hl : la.length ≤ 1099511627776) (hl2 : lb.length ≤ 1099511627776) :
    Calls Try.prog 24 #[.slice (some ⟨b, 0, none⟩) 2 2] w fun e w' => ∃ v, e = .returned v ∧ Kd.R k40 40 w' w.heap.size (fun _ => True) v (la ++ lb) ∧ Below w.heap.size w w' := by
  have hc0 : w.cell? ⟨b, 0, none⟩ = some (.slice A la.length ca) := blk_cell hb 0
  have hc1 : w.cell? ⟨b, 1, none⟩ = some (.slice B lb.length cb) := blk_cell hb 1
  have hw1 : wrap64 (la.length : Int) = (la.length : Int) := by unfold wrap64; omega
  have hw2 : wrap64 ((la.length : Int) + (lb.length : Int)) = ((la.length + lb.length : Nat) : Int) := by unfold wrap64; omega
  have hn1 : ¬ ((la.length : Int) < 0) := by omega
  have hn2 : ¬ (((la.length + lb.length : Nat) : Int) < 0) := by omega
  have HB := Lib.hid hb; clear hb
  have HA := Lib.hid hA; clear hA
  have HBB := Lib.hid hB; clear hB
  go_enter Try.func24, Try.ntmps24
  go_wp2
  refine wp_loop_rounds 3 ?_
  rw [rounds_succ]
  go_wp2
  rw [rounds_succ]
  go_wp2
  rw [rounds_succ]
  go_wp2_with fail
  have hnn : ((la.length : Int) + (lb.length : Int)) = ((la.length + lb.length : Nat) : Int) := by omega
  rw [hnn]
  clear hnn hw2 hw1 hn1 hn2
  refine (grow_nil_calls (la.length + lb.length) w (by omega)).mono ?_
  rintro e w1 ⟨v, rfl, hR, hB1⟩
  obtain ⟨A1, c1, rfl⟩ := Kd.R_slice hR
  have hA1 := Kd.C_below HA.out hB1
  have hb1 := blk_below HB.out hB1
  have hBB1 := Kd.C_below HBB.out hB1
  have hc0 : w1.cell? ⟨b, 0, none⟩ = some (.slice A la.length ca) := blk_cell hb1 0
  have hc1 : w1.cell? ⟨b, 1, none⟩ = some (.slice B lb.length cb) := blk_cell hb1 1
  have HR := Lib.hid hR; clear hR
  have HB1 := Lib.hid hB1; clear hB1
  have HA1 := Lib.hid hA1; clear hA1
  have HBB1 := Lib.hid hBB1; clear hBB1
  have Hb1 := Lib.hid hb1; clear hb1
  go_wp2
  refine wp_loop_rounds 3 ?_
  rw [rounds_succ]
  go_wp2_with (at_builtin; refine Kd.R_append_rows k40 (w0 := w) w.heap.size rfl (.tmp 31) (.tmp 32) 22 40 _ 32 rfl Try.underlying22 info40 rfl (by decide) (by decide) _ [] la A la.length ca (fun _ => True) (fun _ => False) rfl rfl HR.out HA1.out (fun x cs h => by rw [k40_open h]; exact k40_mkM _ _ _ _) (fun _ h => h.elim) (fun _ _ => trivial) HB1.out HB1.out.size (by simp; omega) ?_; intro v1 w2 ho hb2 hg2 hat2)
  obtain ⟨A2, c2, rfl⟩ := Kd.R_slice ho
  have hBB2 := Kd.C_below HBB.out hb2
  have hb2' := blk_below HB.out hb2
  have hc1 : w2.cell? ⟨b, 1, none⟩ = some (.slice B lb.length cb) := blk_cell hb2' 1
  simp only [List.nil_append] at ho
  have HR2 := Lib.hid ho; clear ho hg2 hat2
  have HB2 := Lib.hid hb2; clear hb2 hb2'
  have HBB2 := Lib.hid hBB2; clear hBB2
  rw [rounds_succ]
  go_wp2_with (at_builtin; refine Kd.R_append_rows k40 (w0 := w) w.heap.size rfl (.tmp 31) (.tmp 32) 22 40 _ 32 rfl Try.underlying22 info40 rfl (by decide) (by decide) _ la lb B lb.length cb (fun _ => True) (fun _ => False) rfl rfl HR2.out HBB2.out (fun x cs h => by rw [k40_open h]; exact k40_mkM _ _ _ _) (fun _ h => h.elim) (fun _ _ => trivial) HB2.out HB2.out.size (by omega) ?_; intro v1 w3 ho hb3 hg3 hat3)
  clear hg3 hat3
  rw [rounds_succ]
  go_wp2
  go_ret
  exact ⟨_, rfl, ho, hb3⟩
def eqE (x y : S40) : Bool := (x.f0 == y.f0) && ((x.f1 == y.f1) && (x.f2.toList == y.f2.toList))
def compG : S40 → List S40 → List S40
  | _, [] => []
  | p, x :: r => if eqE x p = true then compG x r else x :: compG x r
def compE : List S40 → List S40
  | [] => []
  | x :: r => x :: compG x r
def CellsE (cur : Array Value) (i : Nat) (x : S40) : Prop := cur[i * 3]? = some (.int .i64 x.f0) ∧ cur[i * 3 + 1]? = some (.int .i64 x.f1) ∧ cur[i * 3 + 2]? = some (.string x.f2)
def HoldsE (cur : Array Value) (l : List S40) : Prop := ∀ i x, l[i]? = some x → CellsE cur i x
theorem at_E {w : World} {g : Nat} {cur : Array Value} {t i : Nat} {x : S40} (hb : w.heap[g]? = some (.cells cur t (0, 0))) (h : CellsE cur i x) :
    w.cell? ⟨g, i * 3, none⟩ = some (.int .i64 x.f0) ∧ w.cell? ⟨g, i * 3 + 1, none⟩ = some (.int .i64 x.f1) ∧ w.cell? ⟨g, i * 3 + 2, none⟩ = some (.string x.f2) :=
  ⟨by simp [World.cell?, hb, h.1], by simp [World.cell?, hb, h.2.1], by simp [World.cell?, hb, h.2.2]⟩
theorem rdE (l : List S40) (i : Nat) (h : i < l.length) : rd_T40 l (i : Int) = l[i] := by
  unfold rd_T40
  rw [Int.toNat_natCast, List.getD_eq_getElem?_getD, List.getElem?_eq_getElem h]
  rfl
theorem CellsE.cell {w : World} {g : Nat} {cur : Array Value} {t i o : Nat} {x : S40} (h : CellsE cur i x) (hb : w.heap[g]? = some (.cells cur t (0, 0))) (ho : o = i * 3) :
    w.cell? ⟨g, o, none⟩ = some (.int .i64 x.f0) ∧ w.cell? ⟨g, o + 1, none⟩ = some (.int .i64 x.f1) ∧ w.cell? ⟨g, o + 2, none⟩ = some (.string x.f2) := by
  subst ho
  exact at_E hb h
theorem drewN_grown (w : World) (m : Nat) (g : Nat) : w.grownBy (w.drewN m) (some g) := ⟨rfl, rfl, rfl, Nat.le_refl _, fun _ _ _ => rfl⟩
theorem grown_drewN {w w' : World} {g : Option Nat} (h : w.grownBy w' g) (m : Nat) : w.grownBy (w'.drewN m) g := ⟨h.os, h.tape, h.output, h.size, h.block⟩
theorem grown_setCell1 (w : World) (g j : Nat) (u : Value) : w.grownBy (w.setCell ⟨g, j, none⟩ u) (some g) := ⟨rfl, rfl, rfl, by simp [World.setCell], fun k _ hk => Below.heap_setCell _ _ _ _ (fun e => hk (by rw [e]))⟩
theorem store_E {w : World} {g k : Nat} {cur : Array Value} {x : S40} (hb : w.heap[g]? = some (.cells cur 40 (0, 0))) (hk : k * 3 + 2 < cur.size) :
    ∃ cur3, (((w.setCell ⟨g, k * 3, none⟩ (.int .i64 x.f0)).setCell ⟨g, k * 3 + 1, none⟩ (.int .i64 x.f1)).setCell ⟨g, k * 3 + 2, none⟩ (.string x.f2)).heap[g]? = some (.cells cur3 40 (0, 0)) ∧ cur3.size = cur.size ∧ CellsE cur3 k x ∧
      (∀ i y, i ≠ k → CellsE cur i y → CellsE cur3 i y) ∧ w.grownBy (((w.setCell ⟨g, k * 3, none⟩ (.int .i64 x.f0)).setCell ⟨g, k * 3 + 1, none⟩ (.int .i64 x.f1)).setCell ⟨g, k * 3 + 2, none⟩ (.string x.f2)) (some g) := by
  refine ⟨_, blk_put (blk_put (blk_put hb _ _ rfl) _ _ rfl) _ _ rfl, by simp, ?_, ?_, ((grown_setCell1 _ _ _ _).trans (grown_setCell1 _ _ _ _)).trans (grown_setCell1 _ _ _ _)⟩
  · refine ⟨?_, ?_, ?_⟩
    · rw [Array.getElem?_setIfInBounds_ne (by omega), Array.getElem?_setIfInBounds_ne (by omega), Array.getElem?_setIfInBounds_self_of_lt (by omega)]
    · rw [Array.getElem?_setIfInBounds_ne (by omega), Array.getElem?_setIfInBounds_self_of_lt (by simp; omega)]
    · rw [Array.getElem?_setIfInBounds_self_of_lt (by simp; omega)]
  · intro i y hi h
    have e : ∀ j, j < 3 → (((cur.setIfInBounds (k * 3) (.int .i64 x.f0)).setIfInBounds (k * 3 + 1) (.int .i64 x.f1)).setIfInBounds (k * 3 + 2) (.string x.f2))[i * 3 + j]? = cur[i * 3 + j]? := fun j hj => by
      rw [Array.getElem?_setIfInBounds_ne (by omega), Array.getElem?_setIfInBounds_ne (by omega), Array.getElem?_setIfInBounds_ne (by omega)]
    exact ⟨(e 0 (by omega)).trans h.1, (e 1 (by omega)).trans h.2.1, (e 2 (by omega)).trans h.2.2⟩
theorem setCells_E : ∀ (L : List Value) (w : World) (g o : Nat) (cur : Array Value), w.heap[g]? = some (.cells cur 40 (0, 0)) →
    ∃ cur3, (w.setCells g o L).heap[g]? = some (.cells cur3 40 (0, 0)) ∧ cur3.size = cur.size ∧ (∀ j, j < o → cur3[j]? = cur[j]?) ∧ w.grownBy (w.setCells g o L) (some g)
  | [], w, g, o, cur, hb => ⟨cur, hb, rfl, fun _ _ => rfl, ⟨rfl, rfl, rfl, Nat.le_refl _, fun _ _ _ => rfl⟩⟩
  | v :: r, w, g, o, cur, hb => by
    obtain ⟨cur3, h1, h2, h3, h4⟩ := setCells_E r (w.setCell ⟨g, o, none⟩ v) g (o + 1) _ (blk_put hb o v rfl)
    refine ⟨cur3, h1, by rw [h2]; simp, fun j hj => ?_, (grown_setCell1 _ _ _ _).trans h4⟩
    rw [h3 j (by omega), Array.getElem?_setIfInBounds_ne (by omega)]
theorem clear_E {w : World} {g c k m : Nat} {cur : Array Value} (hb : w.heap[g]? = some (.cells cur 40 (0, 0))) (hm : 0 < m) (hfit : (k + m) * 3 ≤ cur.size) :
    ∃ cur3 w3, (∀ ty, (Builtin.clear_ #[22] ty #[.slice (some ⟨g, k * 3, none⟩) m (c - k)]).run Try.prog w = .ok (.tuple #[]) w3) ∧ w3.heap[g]? = some (.cells cur3 40 (0, 0)) ∧ cur3.size = cur.size ∧ (∀ i y, i < k → CellsE cur i y → CellsE cur3 i y) ∧ w.grownBy w3 (some g) := by
  obtain ⟨cur3, h1, h2, h3, h4⟩ := setCells_E (Builtin.zeroCells (Value.agg #[Value.int .i64 0, Value.int .i64 0, Value.string ⟨#[]⟩]).cells m).toList w g (k * 3) cur hb
  have hL : (Builtin.zeroCells (Value.agg #[Value.int .i64 0, Value.int .i64 0, Value.string ⟨#[]⟩]).cells m).toList.length = m * 3 := by
    have hz : (Value.agg #[Value.int .i64 0, Value.int .i64 0, Value.string ⟨#[]⟩]).cells.size = 3 := rfl
    simp [Builtin.zeroCells, hz]
  refine ⟨cur3, _, fun ty => ?_, h1, h2, fun i y hi h => ⟨(h3 _ (by omega)).trans h.1, (h3 _ (by omega)).trans h.2.1, (h3 _ (by omega)).trans h.2.2⟩, h4⟩
  have hst := run_storeCells_cells (P := Try.prog) g (k * 3) (Builtin.zeroCells (Value.agg #[Value.int .i64 0, Value.int .i64 0, Value.string ⟨#[]⟩]).cells m).toList 0 w
    (by intro j hj; rw [hL] at hj; simp [World.cell?, hb]; omega) (by intro j hj; simp [World.frozen?, hb]) (by
      intro v hv
      obtain ⟨i, hi, rfl⟩ := List.mem_iff_getElem.1 hv
      have hz : (Value.agg #[Value.int .i64 0, Value.int .i64 0, Value.string ⟨#[]⟩]).cells = #[Value.int .i64 0, Value.int .i64 0, Value.string ⟨#[]⟩] := rfl
      simp only [Builtin.zeroCells, hz, Array.getElem_toList, Array.getElem_map, Array.getElem_range]
      have h3 : i % 3 < 3 := Nat.mod_lt _ (by omega)
      have e3 : (#[Value.int .i64 0, Value.int .i64 0, Value.string ⟨#[]⟩] : Array Value).size = 3 := rfl
      rw [e3]
      match i % 3, h3 with
      | 0, _ => rfl
      | 1, _ => rfl
      | 2, _ => rfl)
  simp only [Nat.add_zero] at hst
  obtain ⟨m', rfl⟩ : ∃ m', m = m' + 1 := ⟨m - 1, by omega⟩
  have hv : ∀ w, (zeroValue 40).run Try.prog w = .ok (Value.agg #[Value.int .i64 0, Value.int .i64 0, Value.string ⟨#[]⟩]) w := Try.zeroValue40
  simp [Builtin.clear_, run_underlying Try.underlying22, hv, hst]
set_option maxRecDepth 100000 in
theorem neqE_run (x y : S40) (w : World) : Sem.run Try.prog (binOp .neq 40 (.agg #[.int .i64 x.f0, .int .i64 x.f1, .string x.f2]) (.agg #[.int .i64 y.f0, .int .i64 y.f1, .string y.f2])) w = .ok (.bool (!eqE x y)) w := by
  have hu40 := Try.underlying40
  go_simp
  unfold eqE
  by_cases h0 : x.f0 = y.f0 <;> by_cases h1 : x.f1 = y.f1 <;> by_cases h2 : x.f2.toList = y.f2.toList <;> simp [h0, h1, h2]
/-- how it stands in the second loop: k kept, q read of s2 = s[n:] -/
structure CompI (w : World) (g c n : Nat) (l : List S40) (k q : Nat) (wr : World) : Prop where
  out : ∃ (done : List S40) (cur : Array Value) (x : S40), done.length = k ∧ l[n + q - 1]? = some x ∧ compE l = done ++ compG x (l.drop (n + q)) ∧ wr.heap[g]? = some (.cells cur 40 (0, 0)) ∧ cur.size = c * 3 ∧ HoldsE cur done ∧
    (∀ i y, n + q - 1 ≤ i → l[i]? = some y → CellsE cur i y) ∧ w.grownBy wr (some g)
set_option maxRecDepth 100000 in
theorem eqE_run (x y : S40) (w : World) : Sem.run Try.prog (binOp .eql 40 (.agg #[.int .i64 x.f0, .int .i64 x.f1, .string x.f2]) (.agg #[.int .i64 y.f0, .int .i64 y.f1, .string y.f2])) w = .ok (.bool (eqE x y)) w := by
  have hu40 := Try.underlying40
  go_simp
  unfold eqE
  by_cases h0 : x.f0 = y.f0 <;> by_cases h1 : x.f1 = y.f1 <;> by_cases h2 : x.f2.toList = y.f2.toList <;> simp [h0, h1, h2]
set_option maxRecDepth 100000 in
set_option maxHeartbeats 4000000 in
theorem compact_calls (g c : Nat) (cur : Array Value) (l : List S40) (w : World) (hb : w.heap[g]? = some (.cells cur 40 (0, 0))) (hs : cur.size = c * 3) (hlc : l.length ≤ c) (hcm : c ≤ 9223372036854775807) (H : HoldsE cur l) (hl : l.length ≤ 1099511627776) :
    Calls Try.prog 27 #[.slice (some ⟨g, 0, none⟩) l.length c] w fun e w' => ∃ cur', e = .returned (.slice (some ⟨g, 0, none⟩) (compE l).length c) ∧ w'.heap[g]? = some (.cells cur' 40 (0, 0)) ∧ cur'.size = c * 3 ∧ HoldsE cur' (compE l) ∧ w.grownBy w' (some g) := by
  have hu40 := Try.underlying40
  have HB := Lib.hid hb; clear hb
  have HH := Lib.hid H; clear H
  by_cases h2 : l.length < 2
  · have h2' : (l.length : Int) < 2 := by omega
    have hc : compE l = l := by
      rcases l with _ | ⟨x, _ | ⟨y, r⟩⟩
      · rfl
      · rfl
      · exfalso; simp at h2; omega
    go_enter Try.func27, Try.ntmps27
    go_wp2
    go_ret
    exact ⟨cur, by rw [hc]; rfl, HB.out, hs, by rw [hc]; exact HH.out, ⟨rfl, rfl, rfl, Nat.le_refl _, fun _ _ _ => rfl⟩⟩
  · have h2' : ¬ ((l.length : Int) < 2) := by omega
    go_enter Try.func27, Try.ntmps27
    go_wp2
    go_loopw [3] (fun i wr => ∃ n m : Nat, i = .int .i64 (n : Int) ∧ 1 ≤ n ∧ n ≤ l.length ∧ Hid (∃ x, l[n - 1]? = some x ∧ compE l = l.take n ++ compG x (l.drop n)) ∧ wr = w.drewN m) (fun i _ => ((l.length : Int) - intOf i).toNat)
    case atStart =>
      refine ⟨1, 0, rfl, by omega, by omega, Lib.hid ?_, rfl⟩
      rcases l with _ | ⟨x, r⟩
      · simp at h2
      · exact ⟨x, rfl, rfl⟩
    case round =>
      obtain ⟨n, m, rfl, h1n, hnl, HX, rfl⟩ := hrel
      by_cases hlt : n < l.length
      · have hlt' : (n : Int) < (l.length : Int) := by omega
        have hge : (0 : Int) ≤ (n : Int) := by omega
        have hw1 : wrap64 ((n : Int) - 1) = ((n - 1 : Nat) : Int) := by unfold wrap64; omega
        have hw2 : IntKind.i64.wrap ((n : Int) - 1) = ((n - 1 : Nat) : Int) := by rw [i64_w]; exact hw1
        have hlt1 : ((n - 1 : Nat) : Int) < (l.length : Int) := by omega
        have hge1 : (0 : Int) ≤ ((n - 1 : Nat) : Int) := by omega
        have hi1 : n - 1 < l.length := by omega
        obtain ⟨hx0, hx1, hx2⟩ := at_E (w := w) HB.out (HH.out n l[n] (List.getElem?_eq_getElem hlt))
        obtain ⟨hy0, hy1, hy2⟩ := at_E (w := w) HB.out (HH.out (n - 1) l[n - 1] (List.getElem?_eq_getElem hi1))
        have heq := eqE_run l[n] l[n - 1]
        by_cases hq : eqE l[n] l[n - 1] = true
        · rw [hq] at heq
          go_wp2
          go_quiet (fail)
          go_wp2
          go_loopw [3, 5] (fun a b wr => ∃ k q : Nat, a = .int .i64 (k : Int) ∧ b = .int .i64 (q : Int) ∧ 1 ≤ q ∧ n + q ≤ l.length ∧ k ≤ n + q - 1 ∧ CompI w g c n l k q wr) (fun _ b _ => ((l.length : Int) - intOf b).toNat)
          case atStart =>
            obtain ⟨x, hx, he⟩ := HX.out
            refine ⟨n, 1, rfl, rfl, Nat.le_refl _, by omega, by omega, ⟨l.take n, cur, l[n], by simp; omega, by simp [hlt], ?_, HB.out, hs, fun i y hy => ?_, fun i y _ hy => HH.out i y hy, drewN_grown _ _ _⟩⟩
            · rw [he, List.drop_eq_getElem_cons hlt, compG]
              have hx' : l[n - 1] = x := by rw [List.getElem?_eq_getElem hi1] at hx; exact Option.some.inj hx
              rw [← hx', if_pos hq]
            · rw [List.getElem?_take] at hy
              split at hy
              · exact HH.out i y hy
              · cases hy
          case round =>
            obtain ⟨k, q, rfl, rfl, h1q, hql, hkq, hI⟩ := hrel
            obtain ⟨done, cur2, x, hdl, hx, hce, hb2, hs2, hH2, hR2, hG2⟩ := hI.out
            by_cases hlq : q < l.length - n
            · have hlq' : (q : Int) < ((l.length - n : Nat) : Int) := by omega
              have hgq : (0 : Int) ≤ (q : Int) := by omega
              have hwq1 : wrap64 ((q : Int) - 1) = ((q - 1 : Nat) : Int) := by unfold wrap64; omega
              have hwq2 : IntKind.i64.wrap ((q : Int) - 1) = ((q - 1 : Nat) : Int) := by rw [i64_w]; exact hwq1
              have hlq1 : ((q - 1 : Nat) : Int) < ((l.length - n : Nat) : Int) := by omega
              have hgq1 : (0 : Int) ≤ ((q - 1 : Nat) : Int) := by omega
              have hnq : n + q < l.length := by omega
              have hnq1 : n + q - 1 < l.length := by omega
              have hCx := hR2 (n + q) l[n + q] (by omega) (List.getElem?_eq_getElem hnq)
              have hCy := hR2 (n + q - 1) l[n + q - 1] (Nat.le_refl _) (List.getElem?_eq_getElem hnq1)
              obtain ⟨za0, za1, za2⟩ := hCx.cell hb2 (show n * 3 + q * 3 = (n + q) * 3 by omega)
              obtain ⟨zb0, zb1, zb2⟩ := hCy.cell hb2 (show n * 3 + (q - 1) * 3 = (n + q - 1) * 3 by omega)
              have heq := neqE_run l[n + q] l[n + q - 1]
              have HB2 := Lib.hid hb2
              have HH2 := Lib.hid hH2
              have HR2 := Lib.hid hR2
              have HG2 := Lib.hid hG2
              have HCE := Lib.hid hce
              clear hb2 hH2 hR2 hG2 hce hI hx0 hx1 hx2 hy0 hy1 hy2
              by_cases hq2 : eqE l[n + q] l[n + q - 1] = true
              · rw [hq2] at heq
                simp only [Bool.not_true] at heq
                go_wp2
                go_quiet (fail)
                go_wp2
                have hxx : l[n + q - 1] = x := by rw [List.getElem?_eq_getElem hnq1] at hx; exact Option.some.inj hx
                refine ⟨⟨k, q + 1, rfl, by rw [Int.natCast_add]; rfl, by omega, by omega, by omega, ⟨done, cur2, l[n + q], hdl, by rw [show n + (q + 1) - 1 = n + q by omega]; exact List.getElem?_eq_getElem hnq, ?_, HB2.out, hs2, HH2.out, fun i y hi hy => HR2.out i y (by omega) hy, grown_drewN HG2.out _⟩⟩, by simp [intOf]; omega⟩
                rw [HCE.out, List.drop_eq_getElem_cons hnq, compG, ← hxx, if_pos hq2]
                rfl
              · have hq2 : eqE l[n + q] l[n + q - 1] = false := Bool.eq_false_iff.2 hq2
                rw [hq2] at heq
                simp only [Bool.not_false] at heq
                have hlk : (k : Int) < (l.length : Int) := by omega
                have hgk : (0 : Int) ≤ (k : Int) := by omega
                have hks : k * 3 + 2 < cur2.size := by omega
                have f0 : wr.frozen? ⟨g, k * 3, none⟩ = false := by simp [World.frozen?, HB2.out]
                have f1 : wr.frozen? ⟨g, k * 3 + 1, none⟩ = false := by simp [World.frozen?, HB2.out]
                have f2 : wr.frozen? ⟨g, k * 3 + 2, none⟩ = false := by simp [World.frozen?, HB2.out]
                obtain ⟨v0, s0⟩ : ∃ v, wr.cell? ⟨g, k * 3, none⟩ = some v := ⟨cur2[k * 3]'(by omega), by simp [World.cell?, HB2.out]⟩
                obtain ⟨v1, s1⟩ : ∃ v, wr.cell? ⟨g, k * 3 + 1, none⟩ = some v := ⟨cur2[k * 3 + 1]'(by omega), by simp [World.cell?, HB2.out]⟩
                obtain ⟨v2, s2⟩ : ∃ v, wr.cell? ⟨g, k * 3 + 2, none⟩ = some v := ⟨cur2[k * 3 + 2]'(by omega), by simp [World.cell?, HB2.out]⟩
                go_wp2
                go_quiet (fail)
                go_wp2
                have hxx : l[n + q - 1] = x := by rw [List.getElem?_eq_getElem hnq1] at hx; exact Option.some.inj hx
                obtain ⟨cur3, b3, z3, c3, r3, g3⟩ := store_E (x := l[n + q]) (blk_drewN HB2.out nq) hks
                refine ⟨⟨k + 1, q + 1, rfl, rfl, by omega, by omega, by omega, ⟨done ++ [l[n + q]], cur3, l[n + q], by simp [hdl], by rw [show n + (q + 1) - 1 = n + q by omega]; exact List.getElem?_eq_getElem hnq, ?_, b3, by rw [z3, hs2], ?_, fun i y hi hy => r3 i y (by omega) (HR2.out i y (by omega) hy), (grown_drewN HG2.out nq).trans g3⟩⟩, by simp [intOf]; omega⟩
                · rw [HCE.out, List.drop_eq_getElem_cons hnq, compG, ← hxx, if_neg (by rw [hq2]; simp), List.append_assoc]
                  rfl
                · intro i y hy
                  rcases Nat.lt_or_ge i k with hi | hi
                  · rw [List.getElem?_append_left (by omega)] at hy
                    exact r3 i y (by omega) (HH2.out i y hy)
                  · rw [List.getElem?_append_right (by omega)] at hy
                    have e : i - done.length = 0 := by
                      rcases Nat.eq_zero_or_pos (i - done.length) with h | h
                      · exact h
                      · rw [List.getElem?_eq_none (by simp; omega)] at hy; cases hy
                    rw [e] at hy
                    have hik : i = k := by omega
                    have hy' : l[n + q] = y := by simpa using hy
                    rw [hik, ← hy']
                    exact c3
            · have hlq' : ¬ ((q : Int) < ((l.length - n : Nat) : Int)) := by omega
              have hpe : n + q = l.length := by omega
              have HF := Lib.hid (show compE l = done by rw [hce, hpe, List.drop_length, compG, List.append_nil])
              have hgk : (0 : Int) ≤ (k : Int) := by omega
              have hkl : (k : Int) ≤ (l.length : Int) := by omega
              obtain ⟨cur3, w3, hrun, b3, z3, r3, g3⟩ := clear_E (c := c) hb2 (k := k) (m := l.length - k) (by omega) (by omega)
              have HB3 := Lib.hid b3
              have HG3 := Lib.hid (hG2.trans g3)
              have HH3 : Hid (HoldsE cur3 done) := Lib.hid fun i y hy => r3 i y (by have := (List.getElem?_eq_some_iff.1 hy).1; omega) (hH2 i y hy)
              clear b3 g3 r3 hb2 hH2 hR2 hG2 hce hI hx0 hx1 hx2 hy0 hy1 hy2
              go_wp2
              go_ret
              exact ⟨by rw [HF.out, hdl]; rfl, cur3, HB3.out, by rw [z3, hs2], by rw [HF.out]; exact HH3.out, HG3.out⟩
        · have hq : eqE l[n] l[n - 1] = false := Bool.eq_false_iff.2 hq
          rw [hq] at heq
          go_wp2
          go_quiet (fail)
          go_wp2
          obtain ⟨x, hx, he⟩ := HX.out
          have hx' : l[n - 1] = x := by rw [List.getElem?_eq_getElem hi1] at hx; exact Option.some.inj hx
          refine ⟨⟨n + 1, m + nq, rfl, by omega, by omega, Lib.hid ⟨l[n], by simp [hlt], ?_⟩, rfl⟩, by simp [intOf]; omega⟩
          rw [he, List.drop_eq_getElem_cons hlt, compG, ← hx', if_neg (by rw [hq]; simp), List.take_succ_eq_append_getElem hlt, List.append_assoc]
          rfl
      · have hlt' : ¬ ((n : Int) < (l.length : Int)) := by omega
        have hn : n = l.length := by omega
        obtain ⟨x, hx, he⟩ := HX.out
        have HF := Lib.hid (show compE l = l by rw [he, hn, List.drop_length, compG, List.append_nil, List.take_length])
        clear he hx
        go_wp2
        go_ret
        exact ⟨by rw [HF.out]; rfl, cur, blk_drewN HB.out _, hs, by rw [HF.out]; exact HH.out, drewN_grown _ _ _⟩
instance : Inhabited S40 := ⟨z40⟩
theorem cmpLays26 (blk off size : Nat) (w : World) : CmpLays Try.prog 26 #[] encE 3 ordE blk off size w := fun _ _ _ _ x y => order_calls x y _
theorem encE_len (x : S40) : (encE x).length = 3 := rfl
theorem encE_one (x : S40) : ∀ v ∈ encE x, v.oneCell' = true := by
  intro v hv
  simp only [encE, List.mem_cons, List.not_mem_nil, or_false] at hv
  rcases hv with rfl | rfl | rfl <;> rfl
/-- what is sorted and held -/
theorem cells_of_R {w : World} {base : Nat} {ok : Nat → Prop} {A : Option Addr} {c : Nat} {l : List S40} (h : Kd.R k40 40 w base ok (.slice A l.length c) l) :
    (l = [] ∧ A = none ∧ c = 0) ∨ ∃ g cur, A = some ⟨g, 0, none⟩ ∧ base ≤ g ∧ w.heap[g]? = some (.cells cur 40 (0, 0)) ∧ l.length ≤ c ∧ c ≤ maxLen ∧ cur.size = c * 3 ∧ HoldsE cur l := by
  obtain ⟨_, inner, ho, hr⟩ := h
  rcases ho.2 with ⟨h1, h2⟩ | ⟨g, cap, cur, h1, h2, h3, h4, h5, h6, h7⟩
  · left
    simp only [Value.slice.injEq] at h1
    exact ⟨List.length_eq_zero_iff.1 h1.2.1, h1.1, h1.2.2⟩
  · right
    simp only [Value.slice.injEq] at h1
    obtain ⟨rfl, _, rfl⟩ := h1
    have hsz : k40.sz = 3 := rfl
    rw [hsz] at h6 h7
    refine ⟨g, cur, rfl, h2, h3, h4, h5, h6, fun i x hx => ?_⟩
    have hM := k40_openM (hr.2 i x hx)
    have hi := (List.getElem?_eq_some_iff.1 hx).1
    have e : ∀ j v, j < 3 → ([Value.int .i64 x.f0, .int .i64 x.f1, .string x.f2] : List Value)[j]? = some v → cur[i * 3 + j]? = some v := by
      intro j v hj hv
      rw [← hM] at hv
      rw [hsz, List.getElem?_take_of_lt hj, List.getElem?_drop, ← h7, List.getElem?_take_of_lt (by omega)] at hv
      simpa using hv
    exact ⟨e 0 _ (by omega) rfl, e 1 _ (by omega) rfl, e 2 _ (by omega) rfl⟩
theorem R_of_cells {w : World} {base g c : Nat} {cur : Array Value} {l : List S40} (hg : base ≤ g) (hb : w.heap[g]? = some (.cells cur 40 (0, 0))) (hlc : l.length ≤ c) (hcm : c ≤ maxLen) (hs : cur.size = c * 3) (H : HoldsE cur l) :
    Kd.R k40 40 w base (fun _ => True) (.slice (some ⟨g, 0, none⟩) l.length c) l := by
  refine ⟨fun _ _ => trivial, cur.toList.take (l.length * 3), ⟨by show _ = l.length * 3; simp; omega, .inr ⟨g, c, cur, rfl, hg, hb, hlc, hcm, hs, rfl⟩⟩, by show _ = l.length * 3; simp; omega, fun j p hj => ?_⟩
  have hi := (List.getElem?_eq_some_iff.1 hj).1
  obtain ⟨h0, h1, h2⟩ := H j p hj
  have e : ((cur.toList.take (l.length * 3)).drop (j * 3)).take 3 = [.int .i64 p.f0, .int .i64 p.f1, .string p.f2] := by
    apply List.ext_getElem?
    intro i
    rcases Nat.lt_or_ge i 3 with hi3 | hi3
    · rw [List.getElem?_take_of_lt hi3, List.getElem?_drop, List.getElem?_take_of_lt (by omega)]
      match i, hi3 with
      | 0, _ => simpa using h0
      | 1, _ => simpa using h1
      | 2, _ => simpa using h2
    · rw [List.getElem?_eq_none (by simp; omega), List.getElem?_eq_none (by simp; omega)]
  show k40.M w base _ p (((cur.toList.take (l.length * 3)).drop (j * 3)).take 3)
  rw [e]
  exact k40_mkM _ _ _ _
theorem holdsK_of {w : World} {g : Nat} {cur : Array Value} {l : List S40} (hb : w.heap[g]? = some (.cells cur 40 (0, 0))) (H : HoldsE cur l) : Sort.HoldsK encE 3 w g 0 l.toArray := by
  intro t ht
  have ht' : t < l.length * 3 := by simpa using ht
  refine ⟨?_, by simp [World.frozen?, hb]⟩
  rw [Sort.get_flatK _ _ _ _ (by simpa using ht')]
  have hd : t / 3 < l.length := by omega
  have e1 : l.toArray[t / 3]! = l[t / 3] := by simp [hd]
  rw [e1]
  obtain ⟨h0, h1, h2⟩ := H (t / 3) _ (List.getElem?_eq_getElem hd)
  have hm : t = t / 3 * 3 + t % 3 := by omega
  have hm3 : t % 3 < 3 := Nat.mod_lt _ (by omega)
  have key : cur[t]? = some ((encE l[t / 3])[t % 3]!) := by
    generalize t / 3 = q at *
    generalize t % 3 = r at *
    subst hm
    match r, hm3 with
    | 0, _ => exact h0
    | 1, _ => exact h1
    | 2, _ => exact h2
  simp only [World.cell?, Nat.zero_add, hb]
  simp [key]
theorem cells_sorted {w : World} {g n : Nat} {os : Array Obj} {cur : Array Value} {ts : List S40} (hb : w.heap[g]? = some (.cells cur 40 (0, 0))) (hl : ts.length * 3 ≤ cur.size) :
    ∃ cur2, (sortWorldK encE 3 w g 0 n ts.toArray os).heap[g]? = some (.cells cur2 40 (0, 0)) ∧ cur2.size = cur.size ∧ HoldsE cur2 ts ∧ w.grownBy (sortWorldK encE 3 w g 0 n ts.toArray os) (some g) := by
  have hg : g < w.heap.size := (Array.getElem?_eq_some_iff.1 hb).1
  refine ⟨Sort.putCells id 0 (Sort.flatK encE 3 ts.toArray) cur, ?_, by simp [Sort.putCells], fun i x hx => ?_, ⟨rfl, rfl, rfl, by simp [sortWorldK, Sort.putRowK], fun k hk hne => ?_⟩⟩
  · unfold sortWorldK Sort.putRowK
    rw [Sort.heap_grow_old _ _ (by simpa using hg)]
    simp [Sort.putRow, Sort.mapBlock, Sort.ahead, Array.getElem?_modify, hb, Sort.onCells]
  · have hi := (List.getElem?_eq_some_iff.1 hx).1
    have hxi : ts.toArray[i]! = x := by
      have := (List.getElem?_eq_some_iff.1 hx).2
      simp [hi, this]
    have e : ∀ j, j < 3 → (Sort.putCells id 0 (Sort.flatK encE 3 ts.toArray) cur)[i * 3 + j]? = some ((encE x)[j]!) := by
      intro j hj
      have h1 : i * 3 + j < cur.size := by omega
      have h2 : i * 3 + j < ts.length * 3 := by omega
      have h3 := Sort.get_flatK encE 3 ts.toArray (i * 3 + j) (by simpa using h2)
      rw [show (i * 3 + j) / 3 = i by omega, show (i * 3 + j) % 3 = j by omega, hxi] at h3
      rw [getElem!_pos _ _ (by simpa using h2)] at h3
      simp [Sort.putCells, h1, h2]
      simpa using h3
    exact ⟨e 0 (by omega), e 1 (by omega), e 2 (by omega)⟩
  · unfold sortWorldK Sort.putRowK
    rw [Sort.heap_grow_old _ _ (by simpa using hk)]
    have : g ≠ k := fun e => hne (by rw [e])
    simp [Sort.putRow, Sort.mapBlock, Sort.ahead, Array.getElem?_modify, this]
/-! ### the order of the edits -/
theorem bless_eq : ∀ (x y : List UInt8), Op.bytesLess x y = decide (x < y)
  | [], [] => by simp [Op.bytesLess]
  | _ :: _, [] => by simp [Op.bytesLess]
  | [], _ :: _ => by simp [Op.bytesLess]
  | a :: x, b :: y => by
    rw [Op.bytesLess, bless_eq x y]
    simp only [List.cons_lt_cons_iff]
    by_cases h1 : a < b <;> by_cases h2 : a = b <;> by_cases h3 : x < y <;> simp [h1, h2, h3]
def ltE (x y : S40) : Prop := x.f0 < y.f0 ∨ (x.f0 = y.f0 ∧ (x.f1 < y.f1 ∨ (x.f1 = y.f1 ∧ x.f2.toList < y.f2.toList)))
instance (x y : S40) : Decidable (ltE x y) := by unfold ltE; infer_instance
theorem cmpI_lt {x y : Int} : cmpI x y < 0 ↔ x < y := by
  unfold cmpI
  by_cases h : x < y
  · simp [h]
  · by_cases h2 : x > y <;> simp [h, h2]
theorem cmpI_zero {x y : Int} : cmpI x y = 0 ↔ x = y := by
  unfold cmpI
  by_cases h : x < y
  · simp [h]; omega
  · by_cases h2 : x > y
    · simp [h, h2]; omega
    · simp [h, h2]; omega
theorem cmpS_lt {x y : ByteArray} : cmpS x y < 0 ↔ x.toList < y.toList := by
  unfold cmpS
  rw [bless_eq]
  by_cases h : x.toList < y.toList
  · simp [h]
  · rw [if_neg (by simpa using h)]
    by_cases h2 : x.toList = y.toList
    · rw [if_pos h2]; simp [h]
    · rw [if_neg h2]; simp [h]
theorem ltOf_ordE (x y : S40) : ltOf ordE x y = decide (ltE x y) := by
  refine decide_eq_decide.2 ?_
  unfold ordE or3 ltE
  by_cases h0 : cmpI x.f0 y.f0 = 0
  · rw [if_pos h0]
    have e0 := cmpI_zero.1 h0
    by_cases h1 : cmpI x.f1 y.f1 = 0
    · rw [if_pos h1, cmpS_lt]
      have e1 := cmpI_zero.1 h1
      constructor
      · intro h; exact .inr ⟨e0, .inr ⟨e1, h⟩⟩
      · rintro (h | ⟨_, h | ⟨_, h⟩⟩)
        · omega
        · omega
        · exact h
    · rw [if_neg h1, cmpI_lt]
      have e1 : ¬ x.f1 = y.f1 := fun e => h1 (cmpI_zero.2 e)
      constructor
      · intro h; exact .inr ⟨e0, .inl h⟩
      · rintro (h | ⟨_, h | ⟨h, _⟩⟩)
        · omega
        · exact h
        · exact absurd h e1
  · rw [if_neg h0, cmpI_lt]
    have e0 : ¬ x.f0 = y.f0 := fun e => h0 (cmpI_zero.2 e)
    constructor
    · intro h; exact .inl h
    · rintro (h | ⟨h, _⟩)
      · exact h
      · exact absurd h e0
theorem ltE_irrefl (x : S40) : ¬ ltE x x := by
  rintro (h | ⟨_, h | ⟨_, h⟩⟩)
  · omega
  · omega
  · exact List.lt_irrefl _ h
theorem ltE_trans {x y z : S40} (h1 : ltE x y) (h2 : ltE y z) : ltE x z := by
  rcases h1 with h1 | ⟨a1, h1⟩ <;> rcases h2 with h2 | ⟨a2, h2⟩
  · exact .inl (by omega)
  · exact .inl (by omega)
  · exact .inl (by omega)
  · refine .inr ⟨by omega, ?_⟩
    rcases h1 with h1 | ⟨b1, h1⟩ <;> rcases h2 with h2 | ⟨b2, h2⟩
    · exact .inl (by omega)
    · exact .inl (by omega)
    · exact .inl (by omega)
    · exact .inr ⟨by omega, List.lt_trans h1 h2⟩
theorem ltE_total {x y : S40} (h1 : ¬ ltE x y) (h2 : ¬ ltE y x) : x = y := by
  unfold ltE at h1 h2
  have e0 : x.f0 = y.f0 := by
    rcases Int.lt_trichotomy x.f0 y.f0 with h | h | h
    · exact absurd (.inl h) h1
    · exact h
    · exact absurd (.inl h) h2
  have e1 : x.f1 = y.f1 := by
    rcases Int.lt_trichotomy x.f1 y.f1 with h | h | h
    · exact absurd (.inr ⟨e0, .inl h⟩) h1
    · exact h
    · exact absurd (.inr ⟨e0.symm, .inl h⟩) h2
  have e2 : x.f2.toList = y.f2.toList := by
    have l1 : ¬ x.f2.toList < y.f2.toList := fun h => h1 (.inr ⟨e0, .inr ⟨e1, h⟩⟩)
    have l2 : ¬ y.f2.toList < x.f2.toList := fun h => h2 (.inr ⟨e0.symm, .inr ⟨e1.symm, h⟩⟩)
    exact List.le_antisymm (List.not_lt.1 l2) (List.not_lt.1 l1)
  have e3 := ba_ext e2
  cases x; cases y
  simp only at e0 e1 e3
  rw [e0, e1, e3]
theorem swoE : Sort.SWO (ltOf ordE) where
  irrefl x := by rw [ltOf_ordE]; exact decide_eq_false (ltE_irrefl x)
  trans x y z h1 h2 := by
    rw [ltOf_ordE] at *
    exact decide_eq_true (ltE_trans (of_decide_eq_true h1) (of_decide_eq_true h2))
  ntrans x y z h1 h2 := by
    rw [ltOf_ordE] at *
    have h1 := of_decide_eq_false h1
    have h2 := of_decide_eq_false h2
    refine decide_eq_false (fun h => ?_)
    by_cases c : ltE y x
    · exact h2 (ltE_trans c h)
    · have := ltE_total h1 c
      subst this
      exact h2 h
theorem totE (x y : S40) (h1 : ltOf ordE x y = false) (h2 : ltOf ordE y x = false) : x = y := by
  rw [ltOf_ordE] at h1 h2
  exact ltE_total (of_decide_eq_false h1) (of_decide_eq_false h2)
def sortE (l : List S40) : List S40 := l.mergeSort fun x y => !decide (ltE y x)
theorem sortE_eq (l : List S40) : (l.mergeSort fun x y => !(ltOf ordE) y x) = sortE l := by
  unfold sortE
  congr 1
  funext x y
  rw [ltOf_ordE]
def joinS (la lb : List S40) : List S40 := compE (sortE (la ++ lb))
theorem compG_len : ∀ (r : List S40) (p : S40), (compG p r).length ≤ r.length
  | [], _ => Nat.le_refl _
  | x :: r, p => by
    rw [compG]
    split
    · have := compG_len r x; simp; omega
    · have := compG_len r x; simp; omega
theorem compE_len : ∀ l : List S40, (compE l).length ≤ l.length
  | [] => Nat.le_refl _
  | x :: r => by have := compG_len r x; simp [compE]; omega
set_option maxRecDepth 100000 in
set_option maxHeartbeats 4000000 in
theorem compact_nil (A : Option Addr) (c : Nat) (w : World) : Calls Try.prog 27 #[.slice A 0 c] w fun e w' => e = .returned (.slice A 0 c) ∧ w' = w := by
  go_enter Try.func27, Try.ntmps27
  go_wp2
  go_ret
  exact ⟨rfl, rfl⟩
/-- Sorted and made compact: the row holds what joinS says. -/
theorem tidy_calls (A : Option Addr) (c : Nat) (l : List S40) (w0 w : World) (h : Kd.R k40 40 w w0.heap.size (fun _ => True) (.slice A l.length c) l) (hB : Below w0.heap.size w0 w) (hl : l.length ≤ 1099511627776) :
    Calls Try.prog 25 #[.slice A l.length c, .func (.func 26) #[] #[]] w fun e w1 => e = .returned (.tuple #[]) ∧ (Below w0.heap.size w0 w1 ∧
      Calls Try.prog 27 #[.slice A l.length c] w1 fun e w2 => ∃ v, e = .returned v ∧ Kd.R k40 40 w2 w0.heap.size (fun _ => True) v (compE (sortE l)) ∧ Below w0.heap.size w0 w2) := by
  rcases cells_of_R h with ⟨rfl, rfl, rfl⟩ | ⟨g, cur, rfl, hg, hb, hlc, hcm, hs, H⟩
  · refine (AnyF.slices_SortFunc_none Try.sortE none 0 _ w).mono ?_
    rintro e w1 ⟨rfl, rfl⟩
    refine ⟨rfl, hB, (compact_nil none 0 w1).mono ?_⟩
    rintro e w2 ⟨rfl, rfl⟩
    have e0 : compE (sortE []) = [] := by simp [sortE, compE]
    rw [e0]
    exact ⟨_, rfl, Kd.R_nil _ _ _ _ _, hB⟩
  · have eg : ∀ args w, (callFunc 26 args).run Try.prog w = .ok (.enter 26 args) w := enters_of Try.func26 (by kernel_rfl) rfl
    have hcon := AnyQ.slices_SortFunc_total Try.sortE 3 Try.isAgg40 Try.sizeOf40 encE encE_len encE_one ordE swoE 26 #[] g 0 c l.toArray w eg (cmpLays26 g 0 _ w) (holdsK_of hb H) (Array.getElem?_eq_some_iff.1 hb).1 (by simp; omega) totE
    have e1 : (l.toArray.toList.mergeSort fun x y => !(ltOf ordE) y x) = sortE l := sortE_eq l
    rw [e1] at hcon
    have hsl : (sortE l).length = l.length := List.length_mergeSort _
    refine Calls.mono (show Calls Try.prog 25 #[.slice (some ⟨g, 0, none⟩) l.length c, .func (.func 26) #[] #[]] w _ from hcon) ?_
    rintro e w1 ⟨rfl, n, os, rfl⟩
    obtain ⟨cur2, hb2, hs2, H2, hG2⟩ := cells_sorted (n := n) (os := os) (ts := sortE l) hb (by rw [hsl]; omega)
    have hB2 := hB.grown hG2 hB.size (fun k hk => by injection hk with hk; omega)
    refine ⟨rfl, hB2, ?_⟩
    have hc := compact_calls g c cur2 (sortE l) _ hb2 (by rw [hs2, hs]) (by omega) (by simp only [maxLen] at hcm; omega) H2 (by omega)
    rw [hsl] at hc
    refine hc.mono ?_
    rintro e w2 ⟨cur3, rfl, hb3, hs3, H3, hG3⟩
    have := compE_len (sortE l)
    exact ⟨_, rfl, R_of_cells hg hb3 (by omega) hcm hs3 H3, hB2.grown hG3 hB2.size (fun k hk => by injection hk with hk; omega)⟩
def edit_Join.f (k : Nat) (l0 l1 : List (S40)) (a2 : Int) : Option ((List (S40)) × Int) :=
  if l0.length ≤ 549755813888 ∧ l1.length ≤ 549755813888 then (edit_Right.f k (joinS l0 l1) a2).bind fun e => if e = 0 then some (joinS l0 l1, 0) else some ([], e) else none
theorem edit_Join.mono : ∀ a0 a1 a2 k, LeO (edit_Join.f k a0 a1 a2) (edit_Join.f (k + 1) a0 a1 a2) := by
  intro a0 a1 a2 k
  unfold edit_Join.f
  exact LeO.ite (LeO.bind (edit_Right.mono _ _ _) (fun _ => LeO.refl _)) (LeO.refl _)
set_option maxRecDepth 100000 in
set_option maxHeartbeats 8000000 in
theorem edit_Join.calls (k : Nat) (A0 : Option Addr) (c0 : Nat) (l0 : List (S40)) (A1 : Option Addr) (c1 : Nat) (l1 : List (S40)) (a2 : Int) (r1 : List (S40)) (r2 : Int) (w : World) (hr0 : Kd.C k40 w A0 l0.length l0) (hc0 : l0.length ≤ c0) (hr1 : Kd.C k40 w A1 l1.length l1) (hc1 : l1.length ≤ c1) (h : edit_Join.f k l0 l1 a2 = some (r1, r2)) :
    Calls Try.prog 22 #[.slice A0 l0.length c0, .slice A1 l1.length c1, .int .i64 a2] w fun e w' => ∃ v0_ : Value, e = .returned (.tuple #[v0_, .int .i64 r2]) ∧ Kd.R k40 40 w' w.heap.size (fun _ => True) v0_ r1 ∧ Below w.heap.size w w' := by
  unfold edit_Join.f at h
  by_cases hl : l0.length ≤ 549755813888 ∧ l1.length ≤ 549755813888
  · rw [if_pos hl] at h
    obtain ⟨e1, he1, h'⟩ := Option.bind_eq_some_iff.1 h
    have H := Lib.hid h'; clear h' h
    have HE1 := Lib.hid he1; clear he1
    have HL := Lib.hid hl; clear hl
    have hn := World.alloc_heap_new w (.cells #[.slice A0 l0.length c0, .slice A1 l1.length c1] 22)
    have hB1 : Below w.heap.size w (w.alloc (.cells #[.slice A0 l0.length c0, .slice A1 l1.length c1] 22)) := (Below.refl _ _).alloc (Nat.le_refl _) _
    have hcc := concat_calls w.heap.size 22 A0 A1 c0 c1 l0 l1 _ hn (Kd.C_below hr0 hB1) (Kd.C_below hr1 hB1) hc0 hc1 (by have := HL.out.1; omega) (by have := HL.out.2; omega)
    have HCC := Lib.hid hcc; clear hcc hn
    have HB1 := Lib.hid hB1; clear hB1 hr0 hr1
    go_enter Try.func22, Try.ntmps22
    go_wp2_with fail
    refine HCC.out.mono ?_
    rintro e w1 ⟨v1, rfl, hR1, hB2⟩
    obtain ⟨l, hlE⟩ : ∃ l, l = l0 ++ l1 := ⟨_, rfl⟩
    have hJ : joinS l0 l1 = compE (sortE l) := by rw [hlE]; rfl
    have hll : l.length ≤ 1099511627776 := by have := HL.out; rw [hlE]; simp; omega
    rw [← hlE] at hR1
    rw [hJ] at H HE1
    clear hlE hJ HCC
    obtain ⟨A2, c2, rfl⟩ := Kd.R_slice hR1
    have hB3 := HB1.out.trans (hB2.mono HB1.out.size)
    have hR1 := Kd.R_lower hR1 HB1.out.size
    have hT := tidy_calls A2 c2 l w w1 hR1 hB3 hll
    have HT := Lib.hid hT; clear hT hR1 hB2 hB3 hll
    go_wp2_with fail
    refine HT.out.mono ?_
    rintro e w2 ⟨rfl, hB4, hT2⟩
    have HT2 := Lib.hid hT2; clear hT2 hB4
    go_wp2_with fail
    refine HT2.out.mono ?_
    rintro e w3 ⟨v3, rfl, hR3, hB3⟩
    generalize compE (sortE l) = J at *
    obtain ⟨A3, c3, rfl⟩ := Kd.R_slice hR3
    obtain ⟨_, _, he, hc3, hC3⟩ := Kd.R_reads hR3
    simp only [Value.slice.injEq] at he
    obtain ⟨rfl, _, rfl⟩ := he
    have HR3 := Lib.hid hR3; clear hR3
    have HB3 := Lib.hid hB3; clear hB3
    have HC3 := Lib.hid hC3; clear hC3
    go_wp2_with fail
    refine (edit_Right.calls k A3 c3 J a2 e1 w3 HC3.out hc3 HE1.out).mono ?_
    rintro e w4 ⟨rfl, hB4⟩
    have HB4 := Lib.hid (HB3.out.trans (hB4.mono HB3.out.size))
    have HR4 := Lib.hid (Kd.R_below HR3.out hB4)
    clear hB4
    by_cases c1 : e1 = 0
    · subst c1
      have h := H.out
      rw [if_pos rfl] at h
      simp only [Option.some.injEq, Prod.mk.injEq] at h
      obtain ⟨rfl, rfl⟩ := h
      go_wp2
      go_ret2
      exact ⟨_, rfl, HR4.out, HB4.out⟩
    · have h := H.out
      rw [if_neg c1] at h
      simp only [Option.some.injEq, Prod.mk.injEq] at h
      obtain ⟨rfl, rfl⟩ := h
      go_wp2
      go_ret2
      exact ⟨_, rfl, Kd.R_nil _ _ _ _ _, HB4.out⟩
  · rw [if_neg hl] at h
    exact absurd h (by simp)


end Go.Proofs.Ytkokiggccbkngaa.PAll
