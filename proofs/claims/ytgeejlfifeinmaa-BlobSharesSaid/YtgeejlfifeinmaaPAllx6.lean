-- Written by this session's program hprint.py over the kit's print. Not trusted: Lean checks it.
import Derived.Test.YtgeejlfifeinmaaPAllx0
import Derived.Test.YtgeejlfifeinmaaPAllx3
import Derived.Test.YtgeejlfifeinmaaPAllx4
import Derived.Test.YtgeejlfifeinmaaPAllx5
import Derived.Lib.Hide
import Derived.Outline
namespace Go.Proofs.Ytgeejlfifeinmaa.PAll
open Go.RowKit Go.Proofs.YtgeejlfifeinmaaW.PrintWords Go.Proofs.YtgeejlfifeinmaaW.PrintLast Go.Proofs.YtgeejlfifeinmaaW.PrintMore
attribute [local go_sem] max2_int min2_int max_two min_two max_three min_three max_four min_four   -- for this text's walks alone
set_option linter.unusedVariables false
set_option linter.unusedSimpArgs false

--HAND blob_alive.tpl
--HANDIMPORT Derived.Lib.Hide
--HANDIMPORT Derived.Outline

/-! ### codesearchlaw24_alive: function 6 -/
def codesearchlaw24_alive.f (k : Nat) : Option Bool := if 40 ≤ k then some true else none
theorem codesearchlaw24_alive.mono : ∀ k, LeO (codesearchlaw24_alive.f k) (codesearchlaw24_alive.f (k + 1)) := by
  intro k r h
  unfold codesearchlaw24_alive.f at h ⊢
  by_cases c : 40 ≤ k
  · rw [if_pos c] at h; rw [if_pos (by omega)]; exact h
  · rw [if_neg c] at h; exact absurd h (by simp)
def bX : ByteArray := ⟨#[120]⟩
def bY : ByteArray := ⟨#[121]⟩
theorem al_new : blob_New.f = some (1, []) := by kernel_rfl
theorem al_a : blob_Put.f 40 1 [] ⟨#[120]⟩ = some (2, [⟨1, ⟨#[120]⟩⟩], 1, 0) := by kernel_rfl
theorem al_b : blob_Put.f 40 2 [⟨1, ⟨#[120]⟩⟩] ⟨#[121]⟩ = some (3, [⟨1, ⟨#[120]⟩⟩, ⟨2, ⟨#[121]⟩⟩], 2, 0) := by kernel_rfl
theorem al_c : blob_Put.f 40 3 [⟨1, ⟨#[120]⟩⟩, ⟨2, ⟨#[121]⟩⟩] ⟨#[120]⟩ = some (3, [⟨1, ⟨#[120]⟩⟩, ⟨2, ⟨#[121]⟩⟩], 1, 0) := by kernel_rfl
theorem al_s : codesearchref24_Same.f 40 3 [⟨1, ⟨#[120]⟩⟩, ⟨2, ⟨#[121]⟩⟩] 3 [⟨1, ⟨#[120]⟩⟩, ⟨2, ⟨#[121]⟩⟩] = some true := by kernel_rfl
theorem al_k : blob_Keep.f 40 3 [⟨1, ⟨#[120]⟩⟩, ⟨2, ⟨#[121]⟩⟩] [2, 7] = some (3, [⟨2, ⟨#[121]⟩⟩]) := by kernel_rfl
theorem al_d : blob_Put.f 40 3 [⟨2, ⟨#[121]⟩⟩] ⟨#[120]⟩ = some (4, [⟨2, ⟨#[121]⟩⟩, ⟨3, ⟨#[120]⟩⟩], 3, 0) := by kernel_rfl
theorem al_e : blob_Put.f 40 3 [⟨2, ⟨#[121]⟩⟩] ⟨#[0]⟩ = some (0, [], 0, 3) := by kernel_rfl
theorem al_r : blob_Right.f 40 1 [⟨1, ⟨#[]⟩⟩] = some 2 := by kernel_rfl
set_option maxRecDepth 100000 in
set_option maxHeartbeats 8000000 in
theorem codesearchlaw24_alive.calls (k : Nat) (r : Bool) (w : World) (h : codesearchlaw24_alive.f k = some r) :
    Calls Try.prog 6 #[] w fun e w' => e = .returned (.bool r) ∧ Below w.heap.size w w' := by
  obtain rfl : r = true := by
    unfold codesearchlaw24_alive.f at h
    split at h <;> simp_all
  go_enter Try.func6, Try.ntmps6
  go_wp2_with fail
  refine (blob_New.calls 1 [] w al_new).mono ?_
  rintro e w1 ⟨v1, rfl, hR1, hB1⟩
  have hV1 : Kd.V k39 39 w1 w1.heap.size (fun _ => True) v1 ([] : List S39) := Kd.R_V hR1
  obtain ⟨A1, c1, rfl⟩ := Kd.V_slice hV1
  have HB1 := Lib.hid hB1; clear hB1 hR1
  go_wp2_with fail
  refine (blob_Put.calls 40 1 (fun _ => True) A1 c1 [] ⟨#[120]⟩ _ _ _ _ w1 hV1 al_a).mono ?_
  rintro e w2 ⟨v2, rfl, hV2, hB2⟩
  replace hV2 := Kd.V_mono hV2 (ok' := fun _ => True) (fun _ _ => trivial)
  obtain ⟨A2, c2, rfl⟩ := Kd.V_slice hV2
  have HB2 := Lib.hid (HB1.out.trans (hB2.mono HB1.out.size)); clear hB2 hV1
  go_wp2_with fail
  refine (blob_Put.calls 40 2 (fun _ => True) A2 c2 [⟨1, ⟨#[120]⟩⟩] ⟨#[121]⟩ _ _ _ _ _ (Kd.V_alloc hV2 _) al_b).mono ?_
  rintro e w3 ⟨v3, rfl, hV3, hB3⟩
  replace hV3 := Kd.V_mono hV3 (ok' := fun _ => True) (fun _ _ => trivial)
  obtain ⟨A3, c3, rfl⟩ := Kd.V_slice hV3
  have HK1 := Lib.hid (blk_below (World.alloc_heap_new w2 _) hB3)
  have HB3 := Lib.hid ((HB2.out.alloc HB2.out.size _).trans (hB3.mono (HB2.out.alloc HB2.out.size _).size)); clear hB3 hV2
  go_wp2_with fail
  refine (blob_Put.calls 40 3 (fun _ => True) A3 c3 [⟨1, ⟨#[120]⟩⟩, ⟨2, ⟨#[121]⟩⟩] ⟨#[120]⟩ _ _ _ _ _ (Kd.V_alloc hV3 _) al_c).mono ?_
  rintro e w4 ⟨v4, rfl, hV4, hB4⟩
  replace hV4 := Kd.V_mono hV4 (ok' := fun _ => True) (fun _ _ => trivial)
  obtain ⟨A4, c4, rfl⟩ := Kd.V_slice hV4
  have HV3 := Lib.hid (Kd.V_below (Kd.V_alloc hV3 _) hB4)
  have HK1' := Lib.hid (blk_below (blk_alloc HK1.out _) hB4)
  have HK4 := Lib.hid (blk_below (World.alloc_heap_new w3 _) hB4)
  have HB4 := Lib.hid ((HB3.out.alloc HB3.out.size _).trans (hB4.mono (HB3.out.alloc HB3.out.size _).size)); clear hB4 hV3
  have q1 := blk_cell (blk_alloc HK1'.out (.cells #[.int .i64 3, .slice A4 2 c4] 24)) 0
  have q4 := blk_cell (blk_alloc HK4.out (.cells #[.int .i64 3, .slice A4 2 c4] 24)) 0
  have q5 := blk_cell (blk_alloc HK4.out (.cells #[.int .i64 3, .slice A4 2 c4] 24)) 1
  simp only [List.getElem?_toArray, List.getElem?_cons_zero, List.getElem?_cons_succ, List.length_cons, List.length_nil, Nat.reduceAdd] at q1 q4 q5
  obtain ⟨_, h3c, h3C⟩ := Kd.V_reads' (Kd.V_alloc HV3.out (.cells #[.int .i64 3, .slice A4 2 c4] 24))
  obtain ⟨_, h4c, h4C⟩ := Kd.V_reads' (Kd.V_alloc hV4 (.cells #[.int .i64 3, .slice A4 2 c4] 24))
  have H3C := Lib.hid h3C; have H4C := Lib.hid h4C; clear h3C h4C
  go_wp2_with fail
  refine (codesearchref24_Same.calls 40 3 A3 c3 [⟨1, ⟨#[120]⟩⟩, ⟨2, ⟨#[121]⟩⟩] 3 A4 c4 [⟨1, ⟨#[120]⟩⟩, ⟨2, ⟨#[121]⟩⟩] true _ H3C.out h3c H4C.out h4c al_s).mono ?_
  rintro e w5 ⟨rfl, hB5⟩
  have HK5 := Lib.hid (blk_below (blk_alloc HK4.out (.cells #[.int .i64 3, .slice A4 2 c4] 24)) hB5)
  have HV5 := Lib.hid (Kd.V_below (Kd.V_alloc HV3.out (.cells #[.int .i64 3, .slice A4 2 c4] 24)) hB5)
  have HB5 := Lib.hid ((HB4.out.alloc HB4.out.size _).trans (hB5.mono (HB4.out.alloc HB4.out.size _).size)); clear hB5 q1 q4 q5
  have q4 := blk_cell HK5.out 0
  have q5 := blk_cell HK5.out 1
  simp only [List.getElem?_toArray, List.getElem?_cons_zero, List.getElem?_cons_succ, List.length_cons, List.length_nil, Nat.reduceAdd] at q4 q5
  go_wp2_with fail
  have hI : Kd.C (Kd.int .i64) (w5.alloc (.cells #[.int .i64 2, .int .i64 7] 3)) (some ⟨w5.heap.size, 0, none⟩) ([2, 7] : List Int).length [2, 7] := by
    refine ⟨rfl, by decide, fun _ => ⟨_, rfl, fun j p hj => ⟨[.int .i64 p], rfl, rfl, fun i u hu => ?_⟩⟩⟩
    have hn := World.alloc_heap_new w5 (.cells #[.int .i64 2, .int .i64 7] 3)
    match i, hu with
    | 0, hu =>
      obtain rfl : Value.int .i64 p = u := by simpa using hu
      match j, hj with
      | 0, hj => obtain rfl : (2 : Int) = p := by simpa using hj
                 exact blk_cell hn 0
      | 1, hj => obtain rfl : (7 : Int) = p := by simpa using hj
                 exact blk_cell hn 1
  obtain ⟨_, h5c, h5C⟩ := Kd.V_reads' (Kd.V_alloc HV5.out (.cells #[.int .i64 2, .int .i64 7] 3))
  refine (blob_Keep.calls 40 3 A3 c3 [⟨1, ⟨#[120]⟩⟩, ⟨2, ⟨#[121]⟩⟩] _ 2 [2, 7] _ _ _ h5C h5c hI (Nat.le_refl _) al_k).mono ?_
  rintro e w6 ⟨v6, rfl, hR6, hB6⟩
  have hV6 : Kd.V k39 39 w6 w6.heap.size (fun _ => True) v6 [⟨2, ⟨#[121]⟩⟩] := Kd.R_V hR6
  obtain ⟨A6, c6, rfl⟩ := Kd.V_slice hV6
  have HB6 := Lib.hid ((HB5.out.alloc HB5.out.size _).trans (hB6.mono (HB5.out.alloc HB5.out.size _).size)); clear hB6 hR6 hI h5C q4 q5
  go_wp2_with fail
  refine (blob_Put.calls 40 3 (fun _ => True) A6 c6 [⟨2, ⟨#[121]⟩⟩] ⟨#[120]⟩ _ _ _ _ _ (Kd.V_alloc hV6 _) al_d).mono ?_
  rintro e w7 ⟨v7, rfl, hV7, hB7⟩
  obtain ⟨A7, c7, rfl⟩ := Kd.V_slice hV7
  have HK7 := Lib.hid (blk_below (World.alloc_heap_new w6 _) hB7)
  have HV7 := Lib.hid (Kd.V_below (Kd.V_alloc hV6 _) hB7)
  have HB7 := Lib.hid ((HB6.out.alloc HB6.out.size _).trans (hB7.mono (HB6.out.alloc HB6.out.size _).size)); clear hB7 hV6
  have q4 := blk_cell (blk_alloc HK7.out (.cells #[.int .i64 4, .slice A7 2 c7] 24)) 0
  have q5 := blk_cell (blk_alloc HK7.out (.cells #[.int .i64 4, .slice A7 2 c7] 24)) 1
  simp only [List.getElem?_toArray, List.getElem?_cons_zero, List.getElem?_cons_succ, List.length_cons, List.length_nil, Nat.reduceAdd] at q4 q5
  go_wp2_with fail
  have HV7' := Lib.hid (Kd.V_alloc HV7.out (.cells #[.int .i64 4, .slice A7 2 c7] 24))
  refine (blob_Put.calls 40 3 (fun _ => True) A6 c6 [⟨2, ⟨#[121]⟩⟩] ⟨#[0]⟩ _ _ _ _ _ HV7'.out al_e).mono ?_
  rintro e w8 ⟨v8, rfl, hV8, hB8⟩
  obtain ⟨A8, c8, rfl⟩ := Kd.V_slice hV8
  have HK8 := Lib.hid (blk_below (blk_alloc HK7.out (.cells #[.int .i64 4, .slice A7 2 c7] 24)) hB8)
  have HV8 := Lib.hid (Kd.V_below HV7'.out hB8)
  have HB8 := Lib.hid ((HB7.out.alloc HB7.out.size _).trans (hB8.mono (HB7.out.alloc HB7.out.size _).size)); clear hB8 hV7 hV8 q4 q5
  have q4 := blk_cell (blk_alloc HK8.out (.cells #[.int .i64 0, .slice A8 0 c8] 24)) 0
  have q5 := blk_cell (blk_alloc HK8.out (.cells #[.int .i64 0, .slice A8 0 c8] 24)) 1
  simp only [List.getElem?_toArray, List.getElem?_cons_zero, List.getElem?_cons_succ, List.length_cons, List.length_nil, Nat.reduceAdd] at q4 q5
  obtain ⟨_, h8c, h8C⟩ := Kd.V_reads' (Kd.V_alloc HV8.out (.cells #[.int .i64 0, .slice A8 0 c8] 24))
  obtain ⟨ad, rfl, hx0, _⟩ := at_T39 h8C 0 (by decide) (by decide)
  have hx : (w8.alloc (.cells #[.int .i64 0, .slice A8 0 c8] 24)).cell? ad = some (.int .i64 2) := by simpa [rd_T39, Addr.add] using hx0
  clear hx0 h8C
  go_wp2_with fail
  have hn := World.alloc_heap_new (w8.alloc (.cells #[.int .i64 0, .slice A8 0 c8] 24)) (.cells #[.int .i64 1, .string ⟨#[]⟩] 39)
  rw [World.size_alloc] at hn
  have hR : Kd.C k39 ((w8.alloc (.cells #[.int .i64 0, .slice A8 0 c8] 24)).alloc (.cells #[.int .i64 1, .string ⟨#[]⟩] 39)) (some ⟨w8.heap.size + 1, 0, none⟩) ([⟨1, ⟨#[]⟩⟩] : List S39).length [⟨1, ⟨#[]⟩⟩] := by
    refine ⟨rfl, by decide, fun _ => ⟨_, rfl, fun j p hj => ⟨[.int .i64 p.f0, .string p.f1], rfl, k39_mk _ _, fun i u hu => ?_⟩⟩⟩
    match j, hj with
    | 0, hj =>
      obtain rfl : (⟨1, ⟨#[]⟩⟩ : S39) = p := by simpa using hj
      match i, hu with
      | 0, hu => obtain rfl : Value.int .i64 1 = u := by simpa using hu
                 exact blk_cell hn 0
      | 1, hu => obtain rfl : Value.string ⟨#[]⟩ = u := by simpa using hu
                 exact blk_cell hn 1
  refine (blob_Right.calls 40 1 (some ⟨w8.heap.size + 1, 0, none⟩) 1 [⟨1, ⟨#[]⟩⟩] 2 _ hR (Nat.le_refl _) al_r).mono ?_
  rintro e w9 ⟨rfl, hB9⟩
  have hBa := (HB8.out.alloc HB8.out.size (.cells #[.int .i64 0, .slice A8 0 c8] 24)).alloc (HB8.out.alloc HB8.out.size _).size (.cells #[.int .i64 1, .string ⟨#[]⟩] 39)
  have HB9 := Lib.hid (hBa.trans (hB9.mono hBa.size)); clear hB9 hBa hR
  go_wp2
  go_ret
  exact ⟨rfl, HB9.out⟩


end Go.Proofs.Ytgeejlfifeinmaa.PAll
