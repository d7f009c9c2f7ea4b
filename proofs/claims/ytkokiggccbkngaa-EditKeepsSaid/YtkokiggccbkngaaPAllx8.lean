-- Written by this session's program hprint.py over the kit's print. Not trusted: Lean checks it.
import Derived.Test.YtkokiggccbkngaaPAllx0
import Derived.Test.YtkokiggccbkngaaPAllx2
import Derived.Test.YtkokiggccbkngaaPAllx3
import Derived.Test.YtkokiggccbkngaaPAllx4
import Derived.Test.YtkokiggccbkngaaPAllx5
import Derived.Test.YtkokiggccbkngaaPAllx7
import Derived.Lib.Hide
import Derived.Outline
import Derived.RangeFuncRecord
import Derived.Test.YtkokiggccbkngaaPureJoin
namespace Go.Proofs.Ytkokiggccbkngaa.PAll
open Go.RowKit Go.Proofs.YtkokiggccbkngaaW.PrintWords Go.Proofs.YtkokiggccbkngaaW.PrintLast Go.Proofs.YtkokiggccbkngaaW.PrintMore
attribute [local go_sem] max2_int min2_int max_two min_two max_three min_three max_four min_four   -- for this text's walks alone
set_option linter.unusedVariables false
set_option linter.unusedSimpArgs false

--HAND edit_alive.tpl
--HANDIMPORT Derived.Lib.Hide
--HANDIMPORT Derived.Outline
--HANDIMPORT Derived.RangeFuncRecord
--HANDIMPORT Derived.Test.YtkokiggccbkngaaPureJoin

/-! ### codesearchlaw21_alive: function 10 -/
def codesearchlaw21_alive.f (k : Nat) : Option Bool := if 40 ≤ k then some true else none
theorem codesearchlaw21_alive.mono : ∀ k, LeO (codesearchlaw21_alive.f k) (codesearchlaw21_alive.f (k + 1)) := by
  intro k r h
  unfold codesearchlaw21_alive.f at h ⊢
  by_cases c : 40 ≤ k
  · rw [if_pos c] at h; rw [if_pos (by omega)]; exact h
  · rw [if_neg c] at h; exact absurd h (by simp)
theorem al_1 : edit_Apply.f 40 ⟨#[104, 101, 108, 108, 111]⟩ [⟨0, 1, ⟨#[74]⟩⟩, ⟨5, 5, ⟨#[33]⟩⟩] = some (⟨#[74, 101, 108, 108, 111, 33]⟩, 0) := by kernel_rfl
theorem al_2 : edit_Invert.f 40 ⟨#[104, 101, 108, 108, 111]⟩ [⟨0, 1, ⟨#[74]⟩⟩, ⟨5, 5, ⟨#[33]⟩⟩] = some ([⟨0, 1, ⟨#[104]⟩⟩, ⟨5, 6, ⟨#[]⟩⟩], 0) := by kernel_rfl
theorem al_3 : codesearchref21_Same.f 40 [⟨0, 1, ⟨#[104]⟩⟩, ⟨5, 6, ⟨#[]⟩⟩] [⟨0, 1, ⟨#[104]⟩⟩, ⟨5, 6, ⟨#[]⟩⟩] = some true := by kernel_rfl
theorem al_4 : edit_Size.f 40 [⟨0, 1, ⟨#[74]⟩⟩, ⟨5, 5, ⟨#[33]⟩⟩] = some 1 := by kernel_rfl
theorem al_5 : edit_Move.f 40 [⟨0, 1, ⟨#[74]⟩⟩, ⟨5, 5, ⟨#[33]⟩⟩] 5 1 = some (1, true) := by kernel_rfl
theorem al_6 : edit_Move.f 40 [⟨0, 1, ⟨#[74]⟩⟩, ⟨5, 5, ⟨#[33]⟩⟩] 5 0 = some (0, false) := by kernel_rfl
theorem al_7 : edit_Apply.f 40 ⟨#[97, 98, 99]⟩ [⟨1, 2, ⟨#[]⟩⟩, ⟨1, 1, ⟨#[120]⟩⟩] = some (⟨#[]⟩, 14) := by kernel_rfl
theorem al_8 : edit_Apply.f 40 ⟨#[97, 98]⟩ [⟨0, 1, ⟨#[]⟩⟩, ⟨1, 2, ⟨#[120]⟩⟩] = some (⟨#[120]⟩, 0) := by kernel_rfl
theorem al_9 : edit_Invert.f 40 ⟨#[97, 98]⟩ [⟨0, 1, ⟨#[]⟩⟩, ⟨1, 2, ⟨#[120]⟩⟩] = some ([], 14) := by kernel_rfl
theorem al_a1 : joinS [⟨0, 1, ⟨#[97]⟩⟩] [⟨0, 1, ⟨#[97]⟩⟩, ⟨3, 3, ⟨#[98]⟩⟩] = [⟨0, 1, ⟨#[97]⟩⟩, ⟨3, 3, ⟨#[98]⟩⟩] := by
  refine Go.Proofs.Ytkokiggccbkngaa.Pure.join_is (List.pairwise_cons.2 ⟨fun y hy => ?_, List.pairwise_singleton _ _⟩) (fun y => ⟨.inr, fun h => ?_⟩)
  · rw [List.mem_singleton.1 hy]; exact .inl (by decide)
  · rcases h with h | h
    · rw [List.mem_singleton.1 h]; exact List.mem_cons_self
    · exact h
theorem al_b1 : joinS [⟨0, 2, ⟨#[97]⟩⟩] [⟨1, 3, ⟨#[98]⟩⟩] = [⟨0, 2, ⟨#[97]⟩⟩, ⟨1, 3, ⟨#[98]⟩⟩] := by
  refine Go.Proofs.Ytkokiggccbkngaa.Pure.join_is (List.pairwise_cons.2 ⟨fun y hy => ?_, List.pairwise_singleton _ _⟩) (fun y => ?_)
  · rw [List.mem_singleton.1 hy]; exact .inl (by decide)
  · simp only [List.mem_cons, List.not_mem_nil, or_false]
theorem al_a : edit_Join.f 40 [⟨0, 1, ⟨#[97]⟩⟩] [⟨0, 1, ⟨#[97]⟩⟩, ⟨3, 3, ⟨#[98]⟩⟩] 5 = some ([⟨0, 1, ⟨#[97]⟩⟩, ⟨3, 3, ⟨#[98]⟩⟩], 0) := by
  unfold edit_Join.f
  rw [if_pos ⟨by simp, by simp⟩, al_a1]
  kernel_rfl
theorem al_b : edit_Join.f 40 [⟨0, 2, ⟨#[97]⟩⟩] [⟨1, 3, ⟨#[98]⟩⟩] 5 = some ([], 14) := by
  unfold edit_Join.f
  rw [if_pos ⟨by simp, by simp⟩, al_b1]
  kernel_rfl
theorem al_c : edit_Right.f 40 [⟨0, 1, ⟨#[97]⟩⟩, ⟨3, 3, ⟨#[98]⟩⟩] 2 = some 2 := by kernel_rfl
theorem twoE {w : World} {b t : Nat} {x y : S40} (hn : w.heap[b]? = some (.cells #[.int .i64 x.f0, .int .i64 x.f1, .string x.f2, .int .i64 y.f0, .int .i64 y.f1, .string y.f2] t (0, 0))) : Kd.C k40 w (some ⟨b, 0, none⟩) ([x, y] : List S40).length [x, y] := by
  refine ⟨rfl, by simp, fun _ => ⟨_, rfl, fun j p hj => ⟨[.int .i64 p.f0, .int .i64 p.f1, .string p.f2], rfl, k40_mk _ _, fun i u hu => ?_⟩⟩⟩
  match j, hj with
  | 0, hj =>
    obtain rfl : x = p := by simpa using hj
    match i, hu with
    | 0, hu => obtain rfl : Value.int .i64 x.f0 = u := by simpa using hu
               exact blk_cell hn 0
    | 1, hu => obtain rfl : Value.int .i64 x.f1 = u := by simpa using hu
               exact blk_cell hn 1
    | 2, hu => obtain rfl : Value.string x.f2 = u := by simpa using hu
               exact blk_cell hn 2
  | 1, hj =>
    obtain rfl : y = p := by simpa using hj
    match i, hu with
    | 0, hu => obtain rfl : Value.int .i64 y.f0 = u := by simpa using hu
               exact blk_cell hn 3
    | 1, hu => obtain rfl : Value.int .i64 y.f1 = u := by simpa using hu
               exact blk_cell hn 4
    | 2, hu => obtain rfl : Value.string y.f2 = u := by simpa using hu
               exact blk_cell hn 5
theorem oneE {w : World} {b t : Nat} {x : S40} (hn : w.heap[b]? = some (.cells #[.int .i64 x.f0, .int .i64 x.f1, .string x.f2] t (0, 0))) : Kd.C k40 w (some ⟨b, 0, none⟩) ([x] : List S40).length [x] := by
  refine ⟨rfl, by simp, fun _ => ⟨_, rfl, fun j p hj => ⟨[.int .i64 p.f0, .int .i64 p.f1, .string p.f2], rfl, k40_mk _ _, fun i u hu => ?_⟩⟩⟩
  match j, hj with
  | 0, hj =>
    obtain rfl : x = p := by simpa using hj
    match i, hu with
    | 0, hu => obtain rfl : Value.int .i64 x.f0 = u := by simpa using hu
               exact blk_cell hn 0
    | 1, hu => obtain rfl : Value.int .i64 x.f1 = u := by simpa using hu
               exact blk_cell hn 1
    | 2, hu => obtain rfl : Value.string x.f2 = u := by simpa using hu
               exact blk_cell hn 2
set_option maxRecDepth 100000 in
set_option maxHeartbeats 8000000 in
theorem codesearchlaw21_alive.calls (k : Nat) (r : Bool) (w : World) (h : codesearchlaw21_alive.f k = some r) :
    Calls Try.prog 10 #[] w fun e w' => e = .returned (.bool r) ∧ Below w.heap.size w w' := by
  obtain rfl : r = true := by
    unfold codesearchlaw21_alive.f at h
    split at h <;> simp_all
  clear h
  go_enter Try.func10, Try.ntmps10
  have hn := World.alloc_heap_new w (.cells #[.int .i64 0, .int .i64 1, .string ⟨#[74]⟩, .int .i64 5, .int .i64 5, .string ⟨#[33]⟩] 40)
  have HK := Lib.hid hn; clear hn
  have HB := Lib.hid ((Below.refl w.heap.size w).alloc (Nat.le_refl _) (.cells #[.int .i64 0, .int .i64 1, .string ⟨#[74]⟩, .int .i64 5, .int .i64 5, .string ⟨#[33]⟩] 40))
  go_wp2_with fail
  refine (edit_Apply.calls 40 _ (some ⟨w.heap.size, 0, none⟩) 2 [⟨0, 1, ⟨#[74]⟩⟩, ⟨5, 5, ⟨#[33]⟩⟩] _ _ _ (twoE (x := ⟨0, 1, ⟨#[74]⟩⟩) (y := ⟨5, 5, ⟨#[33]⟩⟩) HK.out) (Nat.le_refl _) al_1).mono ?_
  rintro e w2 ⟨rfl, hB2⟩
  have HK2 := Lib.hid (blk_below HK.out hB2)
  have HB2 := Lib.hid (HB.out.trans (hB2.mono HB.out.size)); clear hB2 HB HK
  go_wp2_with fail
  refine (edit_Invert.calls 40 _ (some ⟨w.heap.size, 0, none⟩) 2 [⟨0, 1, ⟨#[74]⟩⟩, ⟨5, 5, ⟨#[33]⟩⟩] _ _ _ (twoE (x := ⟨0, 1, ⟨#[74]⟩⟩) (y := ⟨5, 5, ⟨#[33]⟩⟩) HK2.out) (Nat.le_refl _) al_2).mono ?_
  rintro e w3 ⟨v3, rfl, hR3, hB3⟩
  obtain ⟨A3, c3, rfl⟩ := Kd.R_slice hR3
  have HK3 := Lib.hid (blk_below HK2.out hB3)
  have HB3 := Lib.hid (HB2.out.trans (hB3.mono HB2.out.size)); clear hB3 HB2 HK2
  obtain ⟨_, hc3, hC3⟩ := Kd.R_reads' hR3
  have HC3 := Lib.hid hC3; clear hC3 hR3
  have hB4 : Below w.heap.size w (w3.alloc (.cells #[.int .i64 0, .int .i64 1, .string ⟨#[104]⟩, .int .i64 5, .int .i64 6, .string ⟨#[]⟩] 40)) := HB3.out.alloc HB3.out.size _
  have hn4 := World.alloc_heap_new w3 (.cells #[.int .i64 0, .int .i64 1, .string ⟨#[104]⟩, .int .i64 5, .int .i64 6, .string ⟨#[]⟩] 40)
  have hC4 := Kd.C_below HC3.out ((Below.refl w3.heap.size w3).alloc (Nat.le_refl _) (.cells #[.int .i64 0, .int .i64 1, .string ⟨#[104]⟩, .int .i64 5, .int .i64 6, .string ⟨#[]⟩] 40))
  have hK4 := blk_alloc HK3.out (.cells #[.int .i64 0, .int .i64 1, .string ⟨#[104]⟩, .int .i64 5, .int .i64 6, .string ⟨#[]⟩] 40)
  have HB4 := Lib.hid hB4; have HN4 := Lib.hid hn4; have HC4 := Lib.hid hC4; have HK4 := Lib.hid hK4
  clear hB4 hn4 hC4 hK4 HC3 HK3 HB3
  go_wp2_with fail
  refine (codesearchref21_Same.calls 40 A3 c3 [⟨0, 1, ⟨#[104]⟩⟩, ⟨5, 6, ⟨#[]⟩⟩] (some ⟨w3.heap.size, 0, none⟩) 2 [⟨0, 1, ⟨#[104]⟩⟩, ⟨5, 6, ⟨#[]⟩⟩] true _ HC4.out hc3 (twoE (x := ⟨0, 1, ⟨#[104]⟩⟩) (y := ⟨5, 6, ⟨#[]⟩⟩) HN4.out) (Nat.le_refl _) al_3).mono ?_
  rintro e w4 ⟨rfl, ⟨nd, rfl⟩⟩
  have hK5 := blk_drewN HK4.out nd
  have hB5 := pw_below_drewN HB4.out nd
  generalize (w3.alloc (.cells #[.int .i64 0, .int .i64 1, .string ⟨#[104]⟩, .int .i64 5, .int .i64 6, .string ⟨#[]⟩] 40)).drewN nd = w5 at hK5 hB5 ⊢
  have HK5 := Lib.hid hK5; have HB5 := Lib.hid hB5; clear hK5 hB5 HN4 HC4 HK4 HB4 hc3
  go_wp2_with fail
  refine (edit_Size.calls 40 (some ⟨w.heap.size, 0, none⟩) 2 [⟨0, 1, ⟨#[74]⟩⟩, ⟨5, 5, ⟨#[33]⟩⟩] _ _ (twoE (x := ⟨0, 1, ⟨#[74]⟩⟩) (y := ⟨5, 5, ⟨#[33]⟩⟩) HK5.out) (Nat.le_refl _) al_4).mono ?_
  rintro e w6 ⟨rfl, hB6⟩
  have HK6 := Lib.hid (blk_below HK5.out hB6)
  have HB6 := Lib.hid (HB5.out.trans (hB6.mono HB5.out.size)); clear hB6 HB5 HK5
  go_wp2_with fail
  refine (edit_Move.calls 40 (some ⟨w.heap.size, 0, none⟩) 2 [⟨0, 1, ⟨#[74]⟩⟩, ⟨5, 5, ⟨#[33]⟩⟩] 5 1 _ _ _ (twoE (x := ⟨0, 1, ⟨#[74]⟩⟩) (y := ⟨5, 5, ⟨#[33]⟩⟩) HK6.out) (Nat.le_refl _) al_5).mono ?_
  rintro e w7 ⟨rfl, hB7⟩
  have HK7 := Lib.hid (blk_below HK6.out hB7)
  have HB7 := Lib.hid (HB6.out.trans (hB7.mono HB6.out.size)); clear hB7 HB6 HK6
  go_wp2_with fail
  refine (edit_Move.calls 40 (some ⟨w.heap.size, 0, none⟩) 2 [⟨0, 1, ⟨#[74]⟩⟩, ⟨5, 5, ⟨#[33]⟩⟩] 5 0 _ _ _ (twoE (x := ⟨0, 1, ⟨#[74]⟩⟩) (y := ⟨5, 5, ⟨#[33]⟩⟩) HK7.out) (Nat.le_refl _) al_6).mono ?_
  rintro e w8 ⟨rfl, hB8⟩
  have HK8 := Lib.hid (blk_below HK7.out hB8)
  have HB8 := Lib.hid (HB7.out.trans (hB8.mono HB7.out.size)); clear hB8 HB7 HK7
  have hn8 := World.alloc_heap_new w8 (.cells #[.int .i64 1, .int .i64 2, .string ⟨#[]⟩, .int .i64 1, .int .i64 1, .string ⟨#[120]⟩] 40)
  have hA8 : Below w.heap.size w (w8.alloc (.cells #[.int .i64 1, .int .i64 2, .string ⟨#[]⟩, .int .i64 1, .int .i64 1, .string ⟨#[120]⟩] 40)) := HB8.out.alloc HB8.out.size _
  have HN8 := Lib.hid hn8; have HA8 := Lib.hid hA8; clear hn8 hA8
  go_wp2_with fail
  refine (edit_Apply.calls 40 _ (some ⟨w8.heap.size, 0, none⟩) 2 [⟨1, 2, ⟨#[]⟩⟩, ⟨1, 1, ⟨#[120]⟩⟩] _ _ _ (twoE (x := ⟨1, 2, ⟨#[]⟩⟩) (y := ⟨1, 1, ⟨#[120]⟩⟩) HN8.out) (Nat.le_refl _) al_7).mono ?_
  rintro e w9 ⟨rfl, hB9⟩
  have HB9 := Lib.hid (HA8.out.trans (hB9.mono HA8.out.size)); clear hB9 HA8 HN8 HB8 HK8
  have hn9 := World.alloc_heap_new w9 (.cells #[.int .i64 0, .int .i64 1, .string ⟨#[]⟩, .int .i64 1, .int .i64 2, .string ⟨#[120]⟩] 40)
  have hA9 : Below w.heap.size w (w9.alloc (.cells #[.int .i64 0, .int .i64 1, .string ⟨#[]⟩, .int .i64 1, .int .i64 2, .string ⟨#[120]⟩] 40)) := HB9.out.alloc HB9.out.size _
  have HN9 := Lib.hid hn9; have HA9 := Lib.hid hA9; clear hn9 hA9
  go_wp2_with fail
  refine (edit_Apply.calls 40 _ (some ⟨w9.heap.size, 0, none⟩) 2 [⟨0, 1, ⟨#[]⟩⟩, ⟨1, 2, ⟨#[120]⟩⟩] _ _ _ (twoE (x := ⟨0, 1, ⟨#[]⟩⟩) (y := ⟨1, 2, ⟨#[120]⟩⟩) HN9.out) (Nat.le_refl _) al_8).mono ?_
  rintro e w10 ⟨rfl, hB10⟩
  have HK10 := Lib.hid (blk_below HN9.out hB10)
  have HB10 := Lib.hid (HA9.out.trans (hB10.mono HA9.out.size)); clear hB10 HA9 HN9 HB9
  go_wp2_with fail
  refine (edit_Invert.calls 40 _ (some ⟨w9.heap.size, 0, none⟩) 2 [⟨0, 1, ⟨#[]⟩⟩, ⟨1, 2, ⟨#[120]⟩⟩] _ _ _ (twoE (x := ⟨0, 1, ⟨#[]⟩⟩) (y := ⟨1, 2, ⟨#[120]⟩⟩) HK10.out) (Nat.le_refl _) al_9).mono ?_
  rintro e w11 ⟨v11, rfl, hR11, hB11⟩
  obtain ⟨A11, c11, rfl⟩ := Kd.R_slice hR11
  have HB11 := Lib.hid (HB10.out.trans (hB11.mono HB10.out.size)); clear hB11 HB10 HK10 hR11
  have hx11 := World.alloc_heap_new w11 (.cells #[.int .i64 0, .int .i64 1, .string ⟨#[97]⟩] 40)
  have hb11 : Below w.heap.size w ((w11.alloc (.cells #[.int .i64 0, .int .i64 1, .string ⟨#[97]⟩] 40)).alloc (.cells #[.int .i64 0, .int .i64 1, .string ⟨#[97]⟩, .int .i64 3, .int .i64 3, .string ⟨#[98]⟩] 40)) := (HB11.out.alloc HB11.out.size _).alloc (HB11.out.alloc HB11.out.size _).size _
  have hx11' := blk_alloc hx11 (.cells #[.int .i64 0, .int .i64 1, .string ⟨#[97]⟩, .int .i64 3, .int .i64 3, .string ⟨#[98]⟩] 40)
  have hy11 := World.alloc_heap_new (w11.alloc (.cells #[.int .i64 0, .int .i64 1, .string ⟨#[97]⟩] 40)) (.cells #[.int .i64 0, .int .i64 1, .string ⟨#[97]⟩, .int .i64 3, .int .i64 3, .string ⟨#[98]⟩] 40)
  rw [World.size_alloc] at hy11
  have HX11 := Lib.hid hx11'; have HY11 := Lib.hid hy11; have HA11 := Lib.hid hb11; clear hx11 hx11' hy11 hb11
  go_wp2_with fail
  refine (edit_Join.calls 40 (some ⟨w11.heap.size, 0, none⟩) 1 [⟨0, 1, ⟨#[97]⟩⟩] (some ⟨w11.heap.size + 1, 0, none⟩) 2 [⟨0, 1, ⟨#[97]⟩⟩, ⟨3, 3, ⟨#[98]⟩⟩] 5 _ _ _ (oneE (x := ⟨0, 1, ⟨#[97]⟩⟩) HX11.out) (Nat.le_refl _) (twoE (x := ⟨0, 1, ⟨#[97]⟩⟩) (y := ⟨3, 3, ⟨#[98]⟩⟩) HY11.out) (Nat.le_refl _) al_a).mono ?_
  rintro e w12 ⟨v12, rfl, hR12, hB12⟩
  obtain ⟨A12, c12, rfl⟩ := Kd.R_slice hR12
  obtain ⟨g12, rfl⟩ : ∃ g, A12 = some ⟨g, 0, none⟩ := by
    rcases cells_of_R hR12 with ⟨h, _⟩ | ⟨g, _, h, _⟩
    · cases h
    · exact ⟨g, h⟩
  obtain ⟨_, hc12, hC12⟩ := Kd.R_reads' hR12
  have HC12 := Lib.hid hC12
  have HB12 := Lib.hid (HA11.out.trans (hB12.mono HA11.out.size)); clear hB12 HA11 HX11 HY11 HB11 hR12 hC12
  have hx12 := World.alloc_heap_new w12 (.cells #[.int .i64 0, .int .i64 2, .string ⟨#[97]⟩] 40)
  have hb12 : Below w.heap.size w ((w12.alloc (.cells #[.int .i64 0, .int .i64 2, .string ⟨#[97]⟩] 40)).alloc (.cells #[.int .i64 1, .int .i64 3, .string ⟨#[98]⟩] 40)) := (HB12.out.alloc HB12.out.size _).alloc (HB12.out.alloc HB12.out.size _).size _
  have hx12' := blk_alloc hx12 (.cells #[.int .i64 1, .int .i64 3, .string ⟨#[98]⟩] 40)
  have hy12 := World.alloc_heap_new (w12.alloc (.cells #[.int .i64 0, .int .i64 2, .string ⟨#[97]⟩] 40)) (.cells #[.int .i64 1, .int .i64 3, .string ⟨#[98]⟩] 40)
  rw [World.size_alloc] at hy12
  have HX12 := Lib.hid hx12'; have HY12 := Lib.hid hy12; have HA12 := Lib.hid hb12; clear hx12 hx12' hy12 hb12
  have hC13 := Kd.C_below HC12.out (((Below.refl w12.heap.size w12).alloc (Nat.le_refl _) (.cells #[.int .i64 0, .int .i64 2, .string ⟨#[97]⟩] 40)).alloc ((Below.refl w12.heap.size w12).alloc (Nat.le_refl _) (.cells #[.int .i64 0, .int .i64 2, .string ⟨#[97]⟩] 40)).size (.cells #[.int .i64 1, .int .i64 3, .string ⟨#[98]⟩] 40))
  have HC13 := Lib.hid hC13; clear hC13 HC12
  go_wp2_with fail
  refine (edit_Join.calls 40 (some ⟨w12.heap.size, 0, none⟩) 1 [⟨0, 2, ⟨#[97]⟩⟩] (some ⟨w12.heap.size + 1, 0, none⟩) 1 [⟨1, 3, ⟨#[98]⟩⟩] 5 _ _ _ (oneE (x := ⟨0, 2, ⟨#[97]⟩⟩) HX12.out) (Nat.le_refl _) (oneE (x := ⟨1, 3, ⟨#[98]⟩⟩) HY12.out) (Nat.le_refl _) al_b).mono ?_
  rintro e w14 ⟨v14, rfl, hR14, hB14⟩
  obtain ⟨A14, c14, rfl⟩ := Kd.R_slice hR14
  have hC14 := Kd.C_below HC13.out hB14
  have HB14 := Lib.hid (HA12.out.trans (hB14.mono HA12.out.size)); clear hB14 HA12 HX12 HY12 HB12 hR14 HC13
  obtain ⟨ad, had, hx0, _⟩ := at_T40 hC14 1 (by decide) (by decide)
  cases had
  have hx : w14.cell? ⟨g12, 3, none⟩ = some (.int .i64 3) := by simpa [rd_T40, Addr.add] using hx0
  have HC14 := Lib.hid hC14; clear hC14 hx0
  go_wp2_with fail
  refine (edit_Right.calls 40 (some ⟨g12, 0, none⟩) c12 [⟨0, 1, ⟨#[97]⟩⟩, ⟨3, 3, ⟨#[98]⟩⟩] 2 2 w14 HC14.out hc12 al_c).mono ?_
  rintro e w15 ⟨rfl, hB15⟩
  have HB15 := Lib.hid (HB14.out.trans (hB15.mono HB14.out.size)); clear hB15 HB14
  go_wp2
  go_ret
  exact ⟨rfl, HB15.out⟩


end Go.Proofs.Ytkokiggccbkngaa.PAll
