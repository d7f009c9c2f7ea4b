-- Written by this session's program hprint.py over the kit's print. Not trusted: Lean checks it.
import Derived.Test.YtbahkbnkbhhcdaaPAllx0
import Derived.Test.YtbahkbnkbhhcdaaPAllx2
import Derived.Test.YtbahkbnkbhhcdaaPAllx3
import Derived.Test.YtbahkbnkbhhcdaaPAllx4
import Derived.Test.YtbahkbnkbhhcdaaPAllx5
import Derived.Lib.Hide
import Derived.Outline
import Derived.RangeFuncRecord
import Derived.Deep.CutBlock
namespace Go.Proofs.Ytbahkbnkbhhcdaa.PAll
open Go.RowKit Go.Proofs.YtbahkbnkbhhcdaaW.PrintWords Go.Proofs.YtbahkbnkbhhcdaaW.PrintLast Go.Proofs.YtbahkbnkbhhcdaaW.PrintMore
attribute [local go_sem] max2_int min2_int max_two min_two max_three min_three max_four min_four   -- for this text's walks alone
set_option linter.unusedVariables false
set_option linter.unusedSimpArgs false

--HAND usage_alive.tpl
--HANDIMPORT Derived.Lib.Hide
--HANDIMPORT Derived.Outline
--HANDIMPORT Derived.RangeFuncRecord
--HANDIMPORT Derived.Deep.CutBlock

/-! ### codesearchlaw50_alive: function 9 -/
def codesearchlaw50_alive.f (k : Nat) : Option Bool := if 40 ≤ k then some true else none
theorem codesearchlaw50_alive.mono : ∀ k, LeO (codesearchlaw50_alive.f k) (codesearchlaw50_alive.f (k + 1)) := by
  intro k r h
  unfold codesearchlaw50_alive.f at h ⊢
  by_cases c : 40 ≤ k
  · rw [if_pos c] at h; rw [if_pos (by omega)]; exact h
  · rw [if_neg c] at h; exact absurd h (by simp)
theorem merge_is {l0 l1 L r : List S34} (hl : l0.length ≤ 549755813888 ∧ l1.length ≤ 549755813888 ∧ ((l0 ++ l1).all fun x => decide (x.f0.size ≤ maxLen)) = true) (hm : mergeM (l0 ++ l1) = L) (hp : r.Perm L) (hs : r.Pairwise fun x y => keyC x y = true) : usage_Merge.f l0 l1 = some r := by
  unfold usage_Merge.f
  rw [if_pos hl, hm]
  congr 1
  exact (sorted_name (hm ▸ mergeM_one _) hp hs).symm
def cA (n t : Int) : S34 := ⟨⟨#[97]⟩, n, t⟩
def cB (n t : Int) : S34 := ⟨⟨#[98]⟩, n, t⟩
theorem al_0 : mergeM ([] ++ [cB 1 5]) = [cB 1 5] := by kernel_rfl
theorem al_1 : usage_Merge.f [] [cB 1 5] = some [cB 1 5] := merge_is (L := [cB 1 5]) ⟨by decide, by decide, by kernel_rfl⟩ (by kernel_rfl) (List.Perm.refl _) (List.pairwise_singleton _ _)
theorem al_2 : usage_Merge.f [cB 1 5] [cA 1 7] = some [cA 1 7, cB 1 5] := merge_is (L := [cB 1 5, cA 1 7]) ⟨by decide, by decide, by kernel_rfl⟩ (by kernel_rfl) (List.Perm.swap _ _ _) (by simp [keyC, cA, cB]; decide)
theorem al_3 : usage_Merge.f [cA 1 7, cB 1 5] [cB 1 3] = some [cA 1 7, cB 2 5] := merge_is (L := [cA 1 7, cB 2 5]) ⟨by decide, by decide, by kernel_rfl⟩ (by kernel_rfl) (List.Perm.refl _) (by simp [keyC, cA, cB]; decide)
theorem al_4 : usage_Merge.f [cA 999999 2] [cA 5 1] = some [cA 1000000 2] := merge_is (L := [cA 1000000 2]) ⟨by decide, by decide, by kernel_rfl⟩ (by kernel_rfl) (List.Perm.refl _) (List.pairwise_singleton _ _)
theorem ad_1 : usage_Add.f [] ⟨#[98]⟩ 5 = some [cB 1 5] := by
  show ((usage_Merge.f [] [cB 1 5]).bind fun t148 => some t148) = _
  rw [al_1]; rfl
theorem ad_2 : usage_Add.f [cB 1 5] ⟨#[97]⟩ 7 = some [cA 1 7, cB 1 5] := by
  show ((usage_Merge.f [cB 1 5] [cA 1 7]).bind fun t148 => some t148) = _
  rw [al_2]; rfl
theorem ad_3 : usage_Add.f [cA 1 7, cB 1 5] ⟨#[98]⟩ 3 = some [cA 1 7, cB 2 5] := by
  show ((usage_Merge.f [cA 1 7, cB 1 5] [cB 1 3]).bind fun t148 => some t148) = _
  rw [al_3]; rfl
theorem ad_4 : usage_Add.f [cA 1 7, cB 2 5] ⟨#[]⟩ 1 = some [cA 1 7, cB 2 5] := by kernel_rfl
theorem ad_5 : usage_Add.f [cA 1 7, cB 2 5] ⟨#[97]⟩ (-1) = some [cA 1 7, cB 2 5] := by kernel_rfl
theorem sa_1 : codesearchref50_Same.f 40 [cA 1 7, cB 2 5] [cA 1 7, cB 2 5] = some true := by kernel_rfl
theorem tt_1 : usage_Total.f 40 [cA 1 7, cB 2 5] = some 3 := by kernel_rfl
theorem to_1 : usage_Top.f [cA 1 7, cB 2 5] 1 = some [cB 2 5] := by kernel_rfl
theorem sc_1 : codesearchref50_SameCounts.f 40 [cB 2 5] [cB 2 5] = some true := by kernel_rfl
theorem si_1 : usage_Since.f 40 [cA 1 7, cB 2 5] 6 = some [cA 1 7] := by kernel_rfl
theorem sa_2 : codesearchref50_Same.f 40 [cA 1 7] [cA 1 7] = some true := by kernel_rfl
theorem ri_1 : usage_Right.f 40 [cA 1 7, cB 2 5] = some true := by kernel_rfl
theorem sa_3 : codesearchref50_Same.f 40 [cA 1000000 2] [cA 1000000 2] = some true := by kernel_rfl
theorem ge_1 : usage_Get.f 40 [cA 1 7, cB 2 5] ⟨#[99]⟩ = some (⟨#[99]⟩, 0, 0) := by kernel_rfl
theorem co_1 : usage_Cold.f 40 [cA 1 7, cB 2 5] [⟨#[99]⟩, ⟨#[98]⟩, ⟨#[97]⟩, ⟨#[99]⟩] 6 = some [⟨#[99]⟩, ⟨#[98]⟩, ⟨#[99]⟩] := by kernel_rfl
theorem st_1 : codesearchref14_SameText.f 40 [⟨#[99]⟩, ⟨#[98]⟩, ⟨#[99]⟩] [⟨#[99]⟩, ⟨#[98]⟩, ⟨#[99]⟩] = some true := by kernel_rfl
theorem cells_H {cur : Array Value} : ∀ (l : List S34), (∀ i x, l[i]? = some x → CellsC cur i x) → HoldsC cur l := fun _ h => h
theorem two34 {w : World} {b : Nat} {x y : S34} (hn : w.heap[b]? = some (.cells #[.string x.f0, .int .i64 x.f1, .int .i64 x.f2, .string y.f0, .int .i64 y.f1, .int .i64 y.f2] 34 (0, 0))) : Kd.R k34 34 w b (fun _ => True) (.slice (some ⟨b, 0, none⟩) ([x, y] : List S34).length 2) [x, y] := by
  refine R_of_cells (Nat.le_refl _) hn (Nat.le_refl _) (by unfold maxLen; omega) rfl (fun i z hi => ?_)
  match i, hi with
  | 0, hi => obtain rfl : x = z := by simpa using hi
             exact ⟨rfl, rfl, rfl⟩
  | 1, hi => obtain rfl : y = z := by simpa using hi
             exact ⟨rfl, rfl, rfl⟩
theorem one34 {w : World} {b : Nat} {x : S34} (hn : w.heap[b]? = some (.cells #[.string x.f0, .int .i64 x.f1, .int .i64 x.f2] 34 (0, 0))) : Kd.R k34 34 w b (fun _ => True) (.slice (some ⟨b, 0, none⟩) ([x] : List S34).length 1) [x] := by
  refine R_of_cells (Nat.le_refl _) hn (Nat.le_refl _) (by unfold maxLen; omega) rfl (fun i z hi => ?_)
  match i, hi with
  | 0, hi => obtain rfl : x = z := by simpa using hi
             exact ⟨rfl, rfl, rfl⟩
theorem strs_C {w : World} {b : Nat} {l : List ByteArray} {cs : Array Value} {t : TypeId} (hn : w.heap[b]? = some (.cells cs t (0, 0))) (hc : ∀ (i : Nat) (s : ByteArray), l[i]? = some s → cs[i]? = some (Value.string s)) (hl : l.length ≤ maxLen) : Kd.C Kd.string w (some ⟨b, 0, none⟩) l.length l := by
  refine ⟨rfl, hl, fun _ => ⟨_, rfl, fun j p hj => ⟨[.string p], rfl, rfl, fun i u hu => ?_⟩⟩⟩
  match i, hu with
  | 0, hu =>
    obtain rfl : Value.string p = u := by simpa using hu
    have := hc j p hj
    show w.cell? ((⟨b, 0, none⟩ : Addr).add (j * 1 + 0)) = _
    rw [Addr.add_lit, blk_cell hn]
    simpa using this
theorem V_base50 {W : World} {b b' : Nat} {ok : Nat → Prop} {v : Value} {xs : List S34} (h : Kd.V k34 34 W b ok v xs) : Kd.V k34 34 W b' ok v xs := h
theorem four_at (i : Nat) (s : ByteArray) (h : ([⟨#[99]⟩, ⟨#[98]⟩, ⟨#[97]⟩, ⟨#[99]⟩] : List ByteArray)[i]? = some s) : (#[.string ⟨#[99]⟩, .string ⟨#[98]⟩, .string ⟨#[97]⟩, .string ⟨#[99]⟩] : Array Value)[i]? = some (Value.string s) := by
  match i, h with
  | 0, h => simp at h; subst h; rfl
  | 1, h => simp at h; subst h; rfl
  | 2, h => simp at h; subst h; rfl
  | 3, h => simp at h; subst h; rfl
theorem three_at (i : Nat) (s : ByteArray) (h : ([⟨#[99]⟩, ⟨#[98]⟩, ⟨#[99]⟩] : List ByteArray)[i]? = some s) : (#[.string ⟨#[99]⟩, .string ⟨#[98]⟩, .string ⟨#[99]⟩] : Array Value)[i]? = some (Value.string s) := by
  match i, h with
  | 0, h => simp at h; subst h; rfl
  | 1, h => simp at h; subst h; rfl
  | 2, h => simp at h; subst h; rfl
set_option maxRecDepth 100000 in
set_option maxHeartbeats 8000000 in
theorem codesearchlaw50_alive.calls (k : Nat) (r : Bool) (w : World) (h : codesearchlaw50_alive.f k = some r) :
    Calls Try.prog 9 #[] w fun e w' => e = .returned (.bool r) ∧ Below w.heap.size w w' := by
  obtain rfl : r = true := by
    unfold codesearchlaw50_alive.f at h
    split at h <;> simp_all
  clear h
  go_enter Try.func9, Try.ntmps9
  go_wp2_with fail
  refine (usage_Add.calls (fun _ => True) none 0 [] ⟨#[98]⟩ 5 _ w (Kd.V_nil _ _ _ _ _) ad_1).mono ?_
  rintro e w1 ⟨v1, rfl, hV1, hB1⟩
  obtain ⟨A1, c1, rfl⟩ := Kd.V_slice hV1
  have HV1 := Lib.hid hV1; have HB1 := Lib.hid hB1; clear hV1 hB1
  go_wp2_with fail
  refine (usage_Add.calls _ A1 c1 [cB 1 5] ⟨#[97]⟩ 7 _ w1 HV1.out ad_2).mono ?_
  rintro e w2 ⟨v2, rfl, hV2, hB2⟩
  obtain ⟨A2, c2, rfl⟩ := Kd.V_slice hV2
  have HV2 := Lib.hid hV2; have HB2 := Lib.hid (HB1.out.trans (hB2.mono HB1.out.size)); clear hV2 hB2 HV1
  go_wp2_with fail
  refine (usage_Add.calls _ A2 c2 [cA 1 7, cB 1 5] ⟨#[98]⟩ 3 _ w2 HV2.out ad_3).mono ?_
  rintro e w3 ⟨v3, rfl, hV3, hB3⟩
  obtain ⟨AU, cU, rfl⟩ := Kd.V_slice hV3
  have HB3 := Lib.hid (HB2.out.trans (hB3.mono HB2.out.size))
  obtain ⟨_, hcU, hCU⟩ := Kd.V_reads' hV3
  have HVU := Lib.hid hV3
  have HCU := Lib.hid hCU; clear hV3 hB3 HV2 HB2 HB1 hCU
  go_upto_region 3 with (fail)
  have hu := blk_alloc (blk_alloc (World.alloc_heap_new w3 (.cells #[.slice AU 2 cU] 24)) (.cells #[.string ⟨#[97]⟩, .int .i64 1, .int .i64 7] 34)) (.cells #[.string ⟨#[98]⟩, .int .i64 2, .int .i64 5] 34)
  have ha := World.alloc_heap_new (w3.alloc (.cells #[.slice AU 2 cU] 24)) (.cells #[.string ⟨#[97]⟩, .int .i64 1, .int .i64 7] 34)
  rw [World.size_alloc] at ha
  replace ha := blk_alloc ha (.cells #[.string ⟨#[98]⟩, .int .i64 2, .int .i64 5] 34)
  have hb := World.alloc_heap_new ((w3.alloc (.cells #[.slice AU 2 cU] 24)).alloc (.cells #[.string ⟨#[97]⟩, .int .i64 1, .int .i64 7] 34)) (.cells #[.string ⟨#[98]⟩, .int .i64 2, .int .i64 5] 34)
  rw [World.size_alloc, World.size_alloc] at hb
  have hB4 : Below w3.heap.size w3 (((w3.alloc (.cells #[.slice AU 2 cU] 24)).alloc (.cells #[.string ⟨#[97]⟩, .int .i64 1, .int .i64 7] 34)).alloc (.cells #[.string ⟨#[98]⟩, .int .i64 2, .int .i64 5] 34)) := (((Below.refl _ _).alloc (Nat.le_refl _) _).alloc (by simp) _).alloc (by simp; omega) _
  have HU := Lib.hid hu; have HA := Lib.hid ha; have HBb := Lib.hid hb
  have HB4 := Lib.hid (HB3.out.trans (hB4.mono HB3.out.size))
  have HC4 := Lib.hid (Kd.C_below HCU.out hB4)
  have HV4 := Lib.hid (Kd.V_below HVU.out hB4)
  clear hu ha hb hB4 HB3 HCU HVU
  generalize (((w3.alloc (.cells #[.slice AU 2 cU] 24)).alloc (.cells #[.string ⟨#[97]⟩, .int .i64 1, .int .i64 7] 34)).alloc (.cells #[.string ⟨#[98]⟩, .int .i64 2, .int .i64 5] 34)) = wq at HU HA HBb HB4 HC4 HV4 ⊢
  have zu : wq.cell? ⟨w3.heap.size, 0, none⟩ = some (.slice AU 2 cU) := blk_cell HU.out 0
  have za0 : wq.cell? ⟨w3.heap.size + 1, 0, none⟩ = some (.string ⟨#[97]⟩) := blk_cell HA.out 0
  have za1 : wq.cell? ⟨w3.heap.size + 1, 1, none⟩ = some (.int .i64 1) := blk_cell HA.out 1
  have za2 : wq.cell? ⟨w3.heap.size + 1, 2, none⟩ = some (.int .i64 7) := blk_cell HA.out 2
  have zb0 : wq.cell? ⟨w3.heap.size + 1 + 1, 0, none⟩ = some (.string ⟨#[98]⟩) := blk_cell HBb.out 0
  have zb1 : wq.cell? ⟨w3.heap.size + 1 + 1, 1, none⟩ = some (.int .i64 2) := blk_cell HBb.out 1
  have zb2 : wq.cell? ⟨w3.heap.size + 1 + 1, 2, none⟩ = some (.int .i64 5) := blk_cell HBb.out 2
  have h3 : Below wq.heap.size wq (wq.drew.alloc (.cells #[.string ⟨#[97]⟩, .int .i64 1, .int .i64 7, .string ⟨#[98]⟩, .int .i64 2, .int .i64 5] 34)) := (below_drew (Below.refl _ _)).alloc (Nat.le_refl _) _
  have hn3 := World.alloc_heap_new wq.drew (.cells #[.string ⟨#[97]⟩, .int .i64 1, .int .i64 7, .string ⟨#[98]⟩, .int .i64 2, .int .i64 5] 34)
  refine start_ (n := 34) (S := fun w' => w'.cell? ⟨w3.heap.size, 0, none⟩ = some (.slice AU 2 cU) ∧ w'.cell? ⟨w3.heap.size + 1, 0, none⟩ = some (.string ⟨#[97]⟩) ∧ w'.cell? ⟨w3.heap.size + 1, 1, none⟩ = some (.int .i64 1) ∧ w'.cell? ⟨w3.heap.size + 1, 2, none⟩ = some (.int .i64 7) ∧ w'.cell? ⟨w3.heap.size + 1 + 1, 0, none⟩ = some (.string ⟨#[98]⟩) ∧ w'.cell? ⟨w3.heap.size + 1 + 1, 1, none⟩ = some (.int .i64 2) ∧ w'.cell? ⟨w3.heap.size + 1 + 1, 2, none⟩ = some (.int .i64 5)) (ds := []) #[false, false, false, false, false, false, false, false, false, false, false, false, false, false, false, false, false, false, false, false, false, false, false, false, false, false, false, false, false, false, false, false, false, false] (by kernel_rfl) rfl rfl ⟨zu, za0, za1, za2, zb0, zb1, zb2⟩ (fun hHeld => ?_)
  refine take_ (i := 0) (N := some 11) (v := ?_) (a' := ?_) #[true, false, false, false, false, false, false, false, false, false, false, false, false, false, false, false, false, false, false, false, false, false, false, false, false, false, false, false, false, false, false, false, false, false] rfl rfl (by kernel_rfl) (fun _ _ _ h => h) (Or.inl ⟨by rfl, ?_⟩) hHeld ?_ ?_
  rotate_left
  · rintro w' ⟨s0, s1, s2, s3, s4, s5, s6⟩
    go_simp
    with_reducible rfl
  rotate_left
  · simp only [Act.put, List.setIfInBounds_toArray, List.set_cons_zero, List.set_cons_succ, i64_w, i32_w]
    rfl
  refine take_ (i := 1) (N := some 12) (v := ?_) (a' := ?_) #[true, true, false, false, false, false, false, false, false, false, false, false, false, false, false, false, false, false, false, false, false, false, false, false, false, false, false, false, false, false, false, false, false, false] rfl rfl (by kernel_rfl) (fun _ _ _ h => h) (Or.inl ⟨by rfl, ?_⟩) hHeld ?_ ?_
  rotate_left
  · rintro w' ⟨s0, s1, s2, s3, s4, s5, s6⟩
    go_simp
    with_reducible rfl
  rotate_left
  · simp only [Act.put, List.setIfInBounds_toArray, List.set_cons_zero, List.set_cons_succ, i64_w, i32_w]
    rfl
  refine take_ (i := 2) (N := some 13) (v := ?_) (a' := ?_) #[true, true, true, false, false, false, false, false, false, false, false, false, false, false, false, false, false, false, false, false, false, false, false, false, false, false, false, false, false, false, false, false, false, false] rfl rfl (by kernel_rfl) (fun _ _ _ h => h) (Or.inl ⟨by rfl, ?_⟩) hHeld ?_ ?_
  rotate_left
  · rintro w' ⟨s0, s1, s2, s3, s4, s5, s6⟩
    go_simp
    with_reducible rfl
  rotate_left
  · simp only [Act.put, List.setIfInBounds_toArray, List.set_cons_zero, List.set_cons_succ, i64_w, i32_w]
    rfl
  refine one_ (i := 3) (N := some 14) #[true, true, true, true, false, false, false, false, false, false, false, false, false, false, false, false, false, false, false, false, false, false, false, false, false, false, false, false, false, false, false, false, false, false] rfl rfl (by kernel_rfl) (by decide) (fun K hK => ?_)
  refine value_ (w1 := ?_) (v := ?_) (by rfl) rfl ?_ ?_
  rotate_left 2
  · go_simp
    constructor
    · rfl
    · rfl
  refine hK.out _ _ ⟨(blk_cell (blk_below HU.out h3) 0), (blk_cell (blk_below HA.out h3) 0), (blk_cell (blk_below HA.out h3) 1), (blk_cell (blk_below HA.out h3) 2), (blk_cell (blk_below HBb.out h3) 0), (blk_cell (blk_below HBb.out h3) 1), (blk_cell (blk_below HBb.out h3) 2)⟩ (fun hHeld => ?_)
  clear hK K
  refine norm_ (a' := ?_) ?_ ?_
  rotate_left
  · show Act.put _ (some 14) _ = _
    simp only [Act.put, List.setIfInBounds_toArray, List.set_cons_zero, List.set_cons_succ, i64_w, i32_w]
    rfl
  refine one_ (i := 4) (N := some 15) #[true, true, true, true, true, false, false, false, false, false, false, false, false, false, false, false, false, false, false, false, false, false, false, false, false, false, false, false, false, false, false, false, false, false] rfl rfl (by kernel_rfl) (by decide) (fun K hK => ?_)
  refine goes_ Try.func32 (by kernel_rfl) rfl #[.slice (some ⟨wq.drew.heap.size, 0, none⟩) ([cA 1 7, cB 2 5] : List S34).length 2] (by rfl) rfl rfl (by simp only [List.map_toArray, List.map_cons, List.map_nil]; rfl) ?_
  with_reducible refine (codesearchlaw50_counts.calls (fun _ => True) (some ⟨wq.drew.heap.size, 0, none⟩) 2 [cA 1 7, cB 2 5] _ _ (Kd.R_V (two34 (x := cA 1 7) (y := cB 2 5) hn3)) rfl).mono ?_
  rintro e w4 ⟨v4, rfl, hV4, hB4⟩
  refine ⟨_, rfl, ?_⟩
  obtain ⟨A4, c4, rfl⟩ := Kd.V_slice hV4
  have h4 := h3.trans (hB4.mono h3.size)
  refine hK.out _ _ ⟨(blk_cell (blk_below HU.out h4) 0), (blk_cell (blk_below HA.out h4) 0), (blk_cell (blk_below HA.out h4) 1), (blk_cell (blk_below HA.out h4) 2), (blk_cell (blk_below HBb.out h4) 0), (blk_cell (blk_below HBb.out h4) 1), (blk_cell (blk_below HBb.out h4) 2)⟩ (fun hHeld => ?_)
  clear hK K
  refine norm_ (a' := ?_) ?_ ?_
  rotate_left
  · show Act.put _ (some 15) _ = _
    simp only [Act.put, List.setIfInBounds_toArray, List.set_cons_zero, List.set_cons_succ, i64_w, i32_w]
    rfl
  refine one_ (i := 5) (N := some 16) #[true, true, true, true, true, true, false, false, false, false, false, false, false, false, false, false, false, false, false, false, false, false, false, false, false, false, false, false, false, false, false, false, false, false] rfl rfl (by kernel_rfl) (by decide) (fun K hK => ?_)
  refine goes_ Try.func14 (by kernel_rfl) rfl #[.agg #[.slice AU ([cA 1 7, cB 2 5] : List S34).length cU], .agg #[.slice A4 ([cA 1 7, cB 2 5] : List S34).length c4]] (by rfl) rfl rfl (by simp only [List.map_toArray, List.map_cons, List.map_nil]; rfl) ?_
  with_reducible refine (codesearchref50_Same.calls 40 AU cU [cA 1 7, cB 2 5] A4 c4 [cA 1 7, cB 2 5] true _ (Kd.C_below HC4.out h4) hcU (Kd.V_reads' hV4).2.2 (Kd.V_reads' hV4).2.1 sa_1).mono ?_
  rintro e w5 ⟨rfl, hB5⟩
  refine ⟨_, rfl, ?_⟩
  have h5 := h4.trans (hB5.mono h4.size)
  refine hK.out _ _ ⟨(blk_cell (blk_below HU.out h5) 0), (blk_cell (blk_below HA.out h5) 0), (blk_cell (blk_below HA.out h5) 1), (blk_cell (blk_below HA.out h5) 2), (blk_cell (blk_below HBb.out h5) 0), (blk_cell (blk_below HBb.out h5) 1), (blk_cell (blk_below HBb.out h5) 2)⟩ (fun hHeld => ?_)
  clear hK K
  refine norm_ (a' := ?_) ?_ ?_
  rotate_left
  · show Act.put _ (some 16) _ = _
    simp only [Act.put, List.setIfInBounds_toArray, List.set_cons_zero, List.set_cons_succ, i64_w, i32_w]
    rfl
  refine pure_ (i := 6) (N := some 17) (v := ?_) (a' := ?_) #[true, true, true, true, true, true, true, false, false, false, false, false, false, false, false, false, false, false, false, false, false, false, false, false, false, false, false, false, false, false, false, false, false, false] rfl rfl (by kernel_rfl) (fun _ _ _ h => h) (Or.inl ⟨by rfl, ?_⟩) ?_ ?_
  rotate_left
  · intro w'
    go_simp
    with_reducible rfl
  rotate_left
  · simp only [Act.put, List.setIfInBounds_toArray, List.set_cons_zero, List.set_cons_succ, i64_w, i32_w]
    rfl
  refine pure_ (i := 7) (N := some 18) (v := ?_) (a' := ?_) #[true, true, true, true, true, true, true, true, false, false, false, false, false, false, false, false, false, false, false, false, false, false, false, false, false, false, false, false, false, false, false, false, false, false] rfl rfl (by kernel_rfl) (fun _ _ _ h => h) (Or.inl ⟨by rfl, ?_⟩) ?_ ?_
  rotate_left
  · intro w'
    go_simp
    with_reducible rfl
  rotate_left
  · simp only [Act.put, List.setIfInBounds_toArray, List.set_cons_zero, List.set_cons_succ, i64_w, i32_w]
    rfl
  refine take_ (i := 8) (N := some 19) (v := ?_) (a' := ?_) #[true, true, true, true, true, true, true, true, true, false, false, false, false, false, false, false, false, false, false, false, false, false, false, false, false, false, false, false, false, false, false, false, false, false] rfl rfl (by kernel_rfl) (fun _ _ _ h => h) (Or.inl ⟨by rfl, ?_⟩) hHeld ?_ ?_
  rotate_left
  · rintro w' ⟨s0, s1, s2, s3, s4, s5, s6⟩
    go_simp
    with_reducible rfl
  rotate_left
  · simp only [Act.put, List.setIfInBounds_toArray, List.set_cons_zero, List.set_cons_succ, i64_w, i32_w]
    rfl
  refine one_ (i := 9) (N := some 20) #[true, true, true, true, true, true, true, true, true, true, false, false, false, false, false, false, false, false, false, false, false, false, false, false, false, false, false, false, false, false, false, false, false, false] rfl rfl (by kernel_rfl) (by decide) (fun K hK => ?_)
  refine goes_ Try.func24 (by kernel_rfl) rfl #[.agg #[.slice AU ([cA 1 7, cB 2 5] : List S34).length cU]] (by rfl) rfl rfl (by simp only [List.map_toArray, List.map_cons, List.map_nil]; rfl) ?_
  with_reducible refine (usage_Total.calls 40 AU cU [cA 1 7, cB 2 5] 3 _ (Kd.C_below HC4.out h5) hcU tt_1).mono ?_
  rintro e w6 ⟨rfl, hB6⟩
  refine ⟨_, rfl, ?_⟩
  have h6 := h5.trans (hB6.mono h5.size)
  refine hK.out _ _ ⟨(blk_cell (blk_below HU.out h6) 0), (blk_cell (blk_below HA.out h6) 0), (blk_cell (blk_below HA.out h6) 1), (blk_cell (blk_below HA.out h6) 2), (blk_cell (blk_below HBb.out h6) 0), (blk_cell (blk_below HBb.out h6) 1), (blk_cell (blk_below HBb.out h6) 2)⟩ (fun hHeld => ?_)
  clear hK K
  refine norm_ (a' := ?_) ?_ ?_
  rotate_left
  · show Act.put _ (some 20) _ = _
    simp only [Act.put, List.setIfInBounds_toArray, List.set_cons_zero, List.set_cons_succ, i64_w, i32_w]
    rfl
  refine pure_ (i := 10) (N := some 21) (v := ?_) (a' := ?_) #[true, true, true, true, true, true, true, true, true, true, true, false, false, false, false, false, false, false, false, false, false, false, false, false, false, false, false, false, false, false, false, false, false, false] rfl rfl (by kernel_rfl) (fun _ _ _ h => h) (Or.inl ⟨by rfl, ?_⟩) ?_ ?_
  rotate_left
  · intro w'
    go_simp
    with_reducible rfl
  rotate_left
  · simp only [Act.put, List.setIfInBounds_toArray, List.set_cons_zero, List.set_cons_succ, i64_w, i32_w]
    rfl
  refine pure_ (i := 11) (N := some 22) (v := ?_) (a' := ?_) #[true, true, true, true, true, true, true, true, true, true, true, true, false, false, false, false, false, false, false, false, false, false, false, false, false, false, false, false, false, false, false, false, false, false] rfl rfl (by kernel_rfl) (fun _ _ _ h => h) (Or.inl ⟨by rfl, ?_⟩) ?_ ?_
  rotate_left
  · intro w'
    go_simp
    with_reducible rfl
  rotate_left
  · simp only [Act.put, List.setIfInBounds_toArray, List.set_cons_zero, List.set_cons_succ, i64_w, i32_w]
    rfl
  refine pure_ (i := 12) (N := some 23) (v := ?_) (a' := ?_) #[true, true, true, true, true, true, true, true, true, true, true, true, true, false, false, false, false, false, false, false, false, false, false, false, false, false, false, false, false, false, false, false, false, false] rfl rfl (by kernel_rfl) (fun _ _ _ h => h) (Or.inl ⟨by rfl, ?_⟩) ?_ ?_
  rotate_left
  · intro w'
    go_simp
    with_reducible rfl
  rotate_left
  · simp only [Act.put, List.setIfInBounds_toArray, List.set_cons_zero, List.set_cons_succ, i64_w, i32_w]
    rfl
  refine take_ (i := 13) (N := some 24) (v := ?_) (a' := ?_) #[true, true, true, true, true, true, true, true, true, true, true, true, true, true, false, false, false, false, false, false, false, false, false, false, false, false, false, false, false, false, false, false, false, false] rfl rfl (by kernel_rfl) (fun _ _ _ h => h) (Or.inl ⟨by rfl, ?_⟩) hHeld ?_ ?_
  rotate_left
  · rintro w' ⟨s0, s1, s2, s3, s4, s5, s6⟩
    go_simp
    with_reducible rfl
  rotate_left
  · simp only [Act.put, List.setIfInBounds_toArray, List.set_cons_zero, List.set_cons_succ, i64_w, i32_w]
    rfl
  refine take_ (i := 15) (N := some 26) (v := ?_) (a' := ?_) #[true, true, true, true, true, true, true, true, true, true, true, true, true, true, false, true, false, false, false, false, false, false, false, false, false, false, false, false, false, false, false, false, false, false] rfl rfl (by kernel_rfl) (fun _ _ _ h => h) (Or.inl ⟨by rfl, ?_⟩) hHeld ?_ ?_
  rotate_left
  · rintro w' ⟨s0, s1, s2, s3, s4, s5, s6⟩
    go_simp
    with_reducible rfl
  rotate_left
  · simp only [Act.put, List.setIfInBounds_toArray, List.set_cons_zero, List.set_cons_succ, i64_w, i32_w]
    rfl
  refine join_ (σ := (Option Addr × Nat × Nat)) 17 #[true, true, true, true, true, true, true, true, true, true, true, true, true, true, true, true, true, false, false, false, false, false, false, false, false, false, false, false, false, false, false, false, false, false] (fun s_ => [(25, .slice s_.1 ([cB 2 5] : List S34).length s_.2.1), (27, .slice (some ⟨s_.2.2, 0, none⟩) 1 1)]) (fun s_ w' => Below wq.heap.size wq w' ∧ Kd.R k34 34 w' wq.heap.size (fun _ => True) (.slice s_.1 1 s_.2.1) [cB 2 5] ∧ w'.heap[s_.2.2]? = some (.cells #[.string ⟨#[98]⟩, .int .i64 2, .int .i64 5] 34 (0, 0))) ?_ ?_
  rotate_left
  · intro hCont
    refine two_ (i := 14) (j := 16) (Ni := some 25) (Nj := some 27) #[true, true, true, true, true, true, true, true, true, true, true, true, true, true, true, true, false, false, false, false, false, false, false, false, false, false, false, false, false, false, false, false, false, false] #[true, true, true, true, true, true, true, true, true, true, true, true, true, true, false, true, true, false, false, false, false, false, false, false, false, false, false, false, false, false, false, false, false, false] rfl rfl rfl rfl (by kernel_rfl) (by decide) (by decide) (fun K hK => ?_) (fun K hK => ?_)
    · skip
      refine goes_ Try.func20 (by kernel_rfl) rfl #[.agg #[.slice AU ([cA 1 7, cB 2 5] : List S34).length cU], .int .i64 1] (by rfl) rfl rfl (by simp only [List.map_toArray, List.map_cons, List.map_nil]; rfl) ?_
      with_reducible refine (usage_Top.calls AU cU [cA 1 7, cB 2 5] 1 [cB 2 5] _ (Kd.C_below HC4.out h6) hcU to_1).mono ?_
      rintro e w7 ⟨v7, rfl, hR7, hB7⟩
      refine ⟨_, rfl, ?_⟩
      obtain ⟨A7, c7, rfl⟩ := Kd.R_slice hR7
      have h7 := h6.trans (hB7.mono h6.size)
      have hn8 := World.alloc_heap_new w7 (.cells #[.string ⟨#[98]⟩, .int .i64 2, .int .i64 5] 34)
      have h8 : Below wq.heap.size wq (w7.alloc (.cells #[.string ⟨#[98]⟩, .int .i64 2, .int .i64 5] 34)) := h7.alloc h7.size _
      have hR8 := Kd.R_lower (Kd.R_below hR7 ((Below.refl w7.heap.size w7).alloc (Nat.le_refl _) (.cells #[.string ⟨#[98]⟩, .int .i64 2, .int .i64 5] 34))) h6.size
      refine hK.out _ _ ⟨(blk_cell (blk_below HU.out h7) 0), (blk_cell (blk_below HA.out h7) 0), (blk_cell (blk_below HA.out h7) 1), (blk_cell (blk_below HA.out h7) 2), (blk_cell (blk_below HBb.out h7) 0), (blk_cell (blk_below HBb.out h7) 1), (blk_cell (blk_below HBb.out h7) 2)⟩ (fun hHeld => ?_)
      clear hK K
      refine norm_ (a' := ?_) ?_ ?_
      rotate_left
      · show Act.put _ (some 25) _ = _
        simp only [Act.put, List.setIfInBounds_toArray, List.set_cons_zero, List.set_cons_succ, i64_w, i32_w]
        rfl
      refine one_ (i := 16) (N := some 27) #[true, true, true, true, true, true, true, true, true, true, true, true, true, true, true, true, true, false, false, false, false, false, false, false, false, false, false, false, false, false, false, false, false, false] rfl rfl (by kernel_rfl) (by decide) (fun K hK => ?_)
      refine value_ (w1 := ?_) (v := ?_) (by rfl) rfl ?_ ?_
      rotate_left 2
      · go_simp
        constructor
        · rfl
        · rfl
      refine hK.out _ _ ⟨(blk_cell (blk_below HU.out h8) 0), (blk_cell (blk_below HA.out h8) 0), (blk_cell (blk_below HA.out h8) 1), (blk_cell (blk_below HA.out h8) 2), (blk_cell (blk_below HBb.out h8) 0), (blk_cell (blk_below HBb.out h8) 1), (blk_cell (blk_below HBb.out h8) 2)⟩ (fun hHeld => ?_)
      clear hK K
      refine norm_ (a' := ?_) ?_ ?_
      rotate_left
      · show Act.put _ (some 27) _ = _
        simp only [Act.put, List.setIfInBounds_toArray, List.set_cons_zero, List.set_cons_succ, i64_w, i32_w]
        rfl
      exact norm_ (by simp only [putAll, Act.put, List.setIfInBounds_toArray, List.set_cons_zero, List.set_cons_succ]) (hCont (A7, c7, w7.heap.size) _ ⟨h8, hR8, hn8⟩)
    · skip
      refine value_ (w1 := ?_) (v := ?_) (by rfl) rfl ?_ ?_
      rotate_left 2
      · go_simp
        constructor
        · rfl
        · rfl
      have hn7 := World.alloc_heap_new w6 (.cells #[.string ⟨#[98]⟩, .int .i64 2, .int .i64 5] 34)
      have h7 : Below wq.heap.size wq (w6.alloc (.cells #[.string ⟨#[98]⟩, .int .i64 2, .int .i64 5] 34)) := h6.alloc h6.size _
      refine hK.out _ _ ⟨(blk_cell (blk_below HU.out (h6.alloc h6.size _)) 0), (blk_cell (blk_below HA.out (h6.alloc h6.size _)) 0), (blk_cell (blk_below HA.out (h6.alloc h6.size _)) 1), (blk_cell (blk_below HA.out (h6.alloc h6.size _)) 2), (blk_cell (blk_below HBb.out (h6.alloc h6.size _)) 0), (blk_cell (blk_below HBb.out (h6.alloc h6.size _)) 1), (blk_cell (blk_below HBb.out (h6.alloc h6.size _)) 2)⟩ (fun hHeld => ?_)
      clear hK K
      refine norm_ (a' := ?_) ?_ ?_
      rotate_left
      · show Act.put _ (some 27) _ = _
        simp only [Act.put, List.setIfInBounds_toArray, List.set_cons_zero, List.set_cons_succ, i64_w, i32_w]
        rfl
      refine one_ (i := 14) (N := some 25) #[true, true, true, true, true, true, true, true, true, true, true, true, true, true, true, true, true, false, false, false, false, false, false, false, false, false, false, false, false, false, false, false, false, false] rfl rfl (by kernel_rfl) (by decide) (fun K hK => ?_)
      refine goes_ Try.func20 (by kernel_rfl) rfl #[.agg #[.slice AU ([cA 1 7, cB 2 5] : List S34).length cU], .int .i64 1] (by rfl) rfl rfl (by simp only [List.map_toArray, List.map_cons, List.map_nil]; rfl) ?_
      with_reducible refine (usage_Top.calls AU cU [cA 1 7, cB 2 5] 1 [cB 2 5] _ (Kd.C_below HC4.out h7) hcU to_1).mono ?_
      rintro e w8 ⟨v7, rfl, hR7, hB7⟩
      refine ⟨_, rfl, ?_⟩
      obtain ⟨A7, c7, rfl⟩ := Kd.R_slice hR7
      have h8 := h7.trans (hB7.mono h7.size)
      have hn8 := blk_below hn7 hB7
      have hR8 := Kd.R_lower hR7 h7.size
      refine hK.out _ _ ⟨(blk_cell (blk_below HU.out h8) 0), (blk_cell (blk_below HA.out h8) 0), (blk_cell (blk_below HA.out h8) 1), (blk_cell (blk_below HA.out h8) 2), (blk_cell (blk_below HBb.out h8) 0), (blk_cell (blk_below HBb.out h8) 1), (blk_cell (blk_below HBb.out h8) 2)⟩ (fun hHeld => ?_)
      clear hK K
      refine norm_ (a' := ?_) ?_ ?_
      rotate_left
      · show Act.put _ (some 25) _ = _
        simp only [Act.put, List.setIfInBounds_toArray, List.set_cons_zero, List.set_cons_succ, i64_w, i32_w]
        rfl
      exact norm_ (by simp only [putAll, Act.put, List.setIfInBounds_toArray, List.set_cons_zero, List.set_cons_succ]) (hCont (A7, c7, w6.heap.size) _ ⟨h8, hR8, hn8⟩)
  rintro ⟨A7, c7, b8⟩ w8 ⟨h8, hR8, hn8⟩
  have hR8 : Kd.R k34 34 w8 wq.heap.size (fun _ => True) (.slice A7 ([cB 2 5] : List S34).length c7) [cB 2 5] := hR8
  have hHeld : w8.cell? ⟨w3.heap.size, 0, none⟩ = some (.slice AU 2 cU) ∧ w8.cell? ⟨w3.heap.size + 1, 0, none⟩ = some (.string ⟨#[97]⟩) ∧ w8.cell? ⟨w3.heap.size + 1, 1, none⟩ = some (.int .i64 1) ∧ w8.cell? ⟨w3.heap.size + 1, 2, none⟩ = some (.int .i64 7) ∧ w8.cell? ⟨w3.heap.size + 1 + 1, 0, none⟩ = some (.string ⟨#[98]⟩) ∧ w8.cell? ⟨w3.heap.size + 1 + 1, 1, none⟩ = some (.int .i64 2) ∧ w8.cell? ⟨w3.heap.size + 1 + 1, 2, none⟩ = some (.int .i64 5) := ⟨blk_cell (blk_below HU.out h8) 0, blk_cell (blk_below HA.out h8) 0, blk_cell (blk_below HA.out h8) 1, blk_cell (blk_below HA.out h8) 2, blk_cell (blk_below HBb.out h8) 0, blk_cell (blk_below HBb.out h8) 1, blk_cell (blk_below HBb.out h8) 2⟩
  refine norm_ (a' := ?_) ?_ ?_
  rotate_left
  · simp only [putAll, Act.put, List.setIfInBounds_toArray, List.set_cons_zero, List.set_cons_succ]
    rfl
  refine one_ (i := 17) (N := some 28) #[true, true, true, true, true, true, true, true, true, true, true, true, true, true, true, true, true, true, false, false, false, false, false, false, false, false, false, false, false, false, false, false, false, false] rfl rfl (by kernel_rfl) (by decide) (fun K hK => ?_)
  refine goes_ Try.func19 (by kernel_rfl) rfl #[.slice A7 ([cB 2 5] : List S34).length c7, .slice (some ⟨b8, 0, none⟩) ([cB 2 5] : List S34).length 1] (by rfl) rfl rfl (by simp only [List.map_toArray, List.map_cons, List.map_nil]; rfl) ?_
  with_reducible refine (codesearchref50_SameCounts.calls 40 A7 c7 [cB 2 5] (some ⟨b8, 0, none⟩) 1 [cB 2 5] true _ (Kd.R_reads' hR8).2.2 (Kd.R_reads' hR8).2.1 (Kd.R_reads' (one34 (x := cB 2 5) hn8)).2.2 (Nat.le_refl _) sc_1).mono ?_
  rintro e w9 ⟨rfl, hD9⟩
  refine ⟨_, rfl, ?_⟩
  have h9 := h8.trans ((Drawn0.below hD9).mono h8.size)
  refine hK.out _ _ ⟨(blk_cell (blk_below HU.out h9) 0), (blk_cell (blk_below HA.out h9) 0), (blk_cell (blk_below HA.out h9) 1), (blk_cell (blk_below HA.out h9) 2), (blk_cell (blk_below HBb.out h9) 0), (blk_cell (blk_below HBb.out h9) 1), (blk_cell (blk_below HBb.out h9) 2)⟩ (fun hHeld => ?_)
  clear hK K
  refine norm_ (a' := ?_) ?_ ?_
  rotate_left
  · show Act.put _ (some 28) _ = _
    simp only [Act.put, List.setIfInBounds_toArray, List.set_cons_zero, List.set_cons_succ, i64_w, i32_w]
    rfl
  refine pure_ (i := 18) (N := some 29) (v := ?_) (a' := ?_) #[true, true, true, true, true, true, true, true, true, true, true, true, true, true, true, true, true, true, true, false, false, false, false, false, false, false, false, false, false, false, false, false, false, false] rfl rfl (by kernel_rfl) (fun _ _ _ h => h) (Or.inl ⟨by rfl, ?_⟩) ?_ ?_
  rotate_left
  · intro w'
    go_simp
    with_reducible rfl
  rotate_left
  · simp only [Act.put, List.setIfInBounds_toArray, List.set_cons_zero, List.set_cons_succ, i64_w, i32_w]
    rfl
  refine pure_ (i := 19) (N := some 30) (v := ?_) (a' := ?_) #[true, true, true, true, true, true, true, true, true, true, true, true, true, true, true, true, true, true, true, true, false, false, false, false, false, false, false, false, false, false, false, false, false, false] rfl rfl (by kernel_rfl) (fun _ _ _ h => h) (Or.inl ⟨by rfl, ?_⟩) ?_ ?_
  rotate_left
  · intro w'
    go_simp
    with_reducible rfl
  rotate_left
  · simp only [Act.put, List.setIfInBounds_toArray, List.set_cons_zero, List.set_cons_succ, i64_w, i32_w]
    rfl
  refine pure_ (i := 20) (N := some 31) (v := ?_) (a' := ?_) #[true, true, true, true, true, true, true, true, true, true, true, true, true, true, true, true, true, true, true, true, true, false, false, false, false, false, false, false, false, false, false, false, false, false] rfl rfl (by kernel_rfl) (fun _ _ _ h => h) (Or.inl ⟨by rfl, ?_⟩) ?_ ?_
  rotate_left
  · intro w'
    go_simp
    with_reducible rfl
  rotate_left
  · simp only [Act.put, List.setIfInBounds_toArray, List.set_cons_zero, List.set_cons_succ, i64_w, i32_w]
    rfl
  refine take_ (i := 21) (N := some 32) (v := ?_) (a' := ?_) #[true, true, true, true, true, true, true, true, true, true, true, true, true, true, true, true, true, true, true, true, true, true, false, false, false, false, false, false, false, false, false, false, false, false] rfl rfl (by kernel_rfl) (fun _ _ _ h => h) (Or.inl ⟨by rfl, ?_⟩) hHeld ?_ ?_
  rotate_left
  · rintro w' ⟨s0, s1, s2, s3, s4, s5, s6⟩
    go_simp
    with_reducible rfl
  rotate_left
  · simp only [Act.put, List.setIfInBounds_toArray, List.set_cons_zero, List.set_cons_succ, i64_w, i32_w]
    rfl
  refine take_ (i := 23) (N := some 34) (v := ?_) (a' := ?_) #[true, true, true, true, true, true, true, true, true, true, true, true, true, true, true, true, true, true, true, true, true, true, false, true, false, false, false, false, false, false, false, false, false, false] rfl rfl (by kernel_rfl) (fun _ _ _ h => h) (Or.inl ⟨by rfl, ?_⟩) hHeld ?_ ?_
  rotate_left
  · rintro w' ⟨s0, s1, s2, s3, s4, s5, s6⟩
    go_simp
    with_reducible rfl
  rotate_left
  · simp only [Act.put, List.setIfInBounds_toArray, List.set_cons_zero, List.set_cons_succ, i64_w, i32_w]
    rfl
  refine join_ (σ := (Option Addr × Nat × Nat)) 9 #[true, true, true, true, true, true, true, true, true, true, true, true, true, true, true, true, true, true, true, true, true, true, true, true, true, false, false, false, false, false, false, false, false, false] (fun s_ => [(33, .agg #[.slice s_.1 ([cA 1 7] : List S34).length s_.2.1]), (35, .slice (some ⟨s_.2.2, 0, none⟩) 1 1)]) (fun s_ w' => Below wq.heap.size wq w' ∧ Kd.R k34 34 w' wq.heap.size (fun _ => True) (.slice s_.1 1 s_.2.1) [cA 1 7] ∧ w'.heap[s_.2.2]? = some (.cells #[.string ⟨#[97]⟩, .int .i64 1, .int .i64 7] 34 (0, 0))) ?_ ?_
  rotate_left
  · intro hCont
    refine two_ (i := 22) (j := 24) (Ni := some 33) (Nj := some 35) #[true, true, true, true, true, true, true, true, true, true, true, true, true, true, true, true, true, true, true, true, true, true, true, true, false, false, false, false, false, false, false, false, false, false] #[true, true, true, true, true, true, true, true, true, true, true, true, true, true, true, true, true, true, true, true, true, true, false, true, true, false, false, false, false, false, false, false, false, false] rfl rfl rfl rfl (by kernel_rfl) (by decide) (by decide) (fun K hK => ?_) (fun K hK => ?_)
    · skip
      refine goes_ Try.func22 (by kernel_rfl) rfl #[.agg #[.slice AU ([cA 1 7, cB 2 5] : List S34).length cU], .int .i64 6] (by rfl) rfl rfl (by simp only [List.map_toArray, List.map_cons, List.map_nil]; rfl) ?_
      with_reducible refine (usage_Since.calls 40 AU cU [cA 1 7, cB 2 5] 6 [cA 1 7] _ (Kd.C_below HC4.out h9) hcU si_1).mono ?_
      rintro e w10 ⟨v10, rfl, hR10, hB10⟩
      refine ⟨_, rfl, ?_⟩
      obtain ⟨A10, c10, rfl⟩ := Kd.R_slice hR10
      have h10 := h9.trans (hB10.mono h9.size)
      have hn11 := World.alloc_heap_new w10 (.cells #[.string ⟨#[97]⟩, .int .i64 1, .int .i64 7] 34)
      have h11 : Below wq.heap.size wq (w10.alloc (.cells #[.string ⟨#[97]⟩, .int .i64 1, .int .i64 7] 34)) := h10.alloc h10.size _
      have hR11 := Kd.R_lower (Kd.R_below hR10 ((Below.refl w10.heap.size w10).alloc (Nat.le_refl _) (.cells #[.string ⟨#[97]⟩, .int .i64 1, .int .i64 7] 34))) h9.size
      refine hK.out _ _ ⟨(blk_cell (blk_below HU.out h10) 0), (blk_cell (blk_below HA.out h10) 0), (blk_cell (blk_below HA.out h10) 1), (blk_cell (blk_below HA.out h10) 2), (blk_cell (blk_below HBb.out h10) 0), (blk_cell (blk_below HBb.out h10) 1), (blk_cell (blk_below HBb.out h10) 2)⟩ (fun hHeld => ?_)
      clear hK K
      refine norm_ (a' := ?_) ?_ ?_
      rotate_left
      · show Act.put _ (some 33) _ = _
        simp only [Act.put, List.setIfInBounds_toArray, List.set_cons_zero, List.set_cons_succ, i64_w, i32_w]
        rfl
      refine one_ (i := 24) (N := some 35) #[true, true, true, true, true, true, true, true, true, true, true, true, true, true, true, true, true, true, true, true, true, true, true, true, true, false, false, false, false, false, false, false, false, false] rfl rfl (by kernel_rfl) (by decide) (fun K hK => ?_)
      refine value_ (w1 := ?_) (v := ?_) (by rfl) rfl ?_ ?_
      rotate_left 2
      · go_simp
        constructor
        · rfl
        · rfl
      refine hK.out _ _ ⟨(blk_cell (blk_below HU.out h11) 0), (blk_cell (blk_below HA.out h11) 0), (blk_cell (blk_below HA.out h11) 1), (blk_cell (blk_below HA.out h11) 2), (blk_cell (blk_below HBb.out h11) 0), (blk_cell (blk_below HBb.out h11) 1), (blk_cell (blk_below HBb.out h11) 2)⟩ (fun hHeld => ?_)
      clear hK K
      refine norm_ (a' := ?_) ?_ ?_
      rotate_left
      · show Act.put _ (some 35) _ = _
        simp only [Act.put, List.setIfInBounds_toArray, List.set_cons_zero, List.set_cons_succ, i64_w, i32_w]
        rfl
      exact norm_ (by simp only [putAll, Act.put, List.setIfInBounds_toArray, List.set_cons_zero, List.set_cons_succ]) (hCont (A10, c10, w10.heap.size) _ ⟨h11, hR11, hn11⟩)
    · skip
      refine value_ (w1 := ?_) (v := ?_) (by rfl) rfl ?_ ?_
      rotate_left 2
      · go_simp
        constructor
        · rfl
        · rfl
      have hn10 := World.alloc_heap_new w9 (.cells #[.string ⟨#[97]⟩, .int .i64 1, .int .i64 7] 34)
      have h10 : Below wq.heap.size wq (w9.alloc (.cells #[.string ⟨#[97]⟩, .int .i64 1, .int .i64 7] 34)) := h9.alloc h9.size _
      refine hK.out _ _ ⟨(blk_cell (blk_below HU.out (h9.alloc h9.size _)) 0), (blk_cell (blk_below HA.out (h9.alloc h9.size _)) 0), (blk_cell (blk_below HA.out (h9.alloc h9.size _)) 1), (blk_cell (blk_below HA.out (h9.alloc h9.size _)) 2), (blk_cell (blk_below HBb.out (h9.alloc h9.size _)) 0), (blk_cell (blk_below HBb.out (h9.alloc h9.size _)) 1), (blk_cell (blk_below HBb.out (h9.alloc h9.size _)) 2)⟩ (fun hHeld => ?_)
      clear hK K
      refine norm_ (a' := ?_) ?_ ?_
      rotate_left
      · show Act.put _ (some 35) _ = _
        simp only [Act.put, List.setIfInBounds_toArray, List.set_cons_zero, List.set_cons_succ, i64_w, i32_w]
        rfl
      refine one_ (i := 22) (N := some 33) #[true, true, true, true, true, true, true, true, true, true, true, true, true, true, true, true, true, true, true, true, true, true, true, true, true, false, false, false, false, false, false, false, false, false] rfl rfl (by kernel_rfl) (by decide) (fun K hK => ?_)
      refine goes_ Try.func22 (by kernel_rfl) rfl #[.agg #[.slice AU ([cA 1 7, cB 2 5] : List S34).length cU], .int .i64 6] (by rfl) rfl rfl (by simp only [List.map_toArray, List.map_cons, List.map_nil]; rfl) ?_
      with_reducible refine (usage_Since.calls 40 AU cU [cA 1 7, cB 2 5] 6 [cA 1 7] _ (Kd.C_below HC4.out h10) hcU si_1).mono ?_
      rintro e w11 ⟨v10, rfl, hR10, hB10⟩
      refine ⟨_, rfl, ?_⟩
      obtain ⟨A10, c10, rfl⟩ := Kd.R_slice hR10
      have h11 := h10.trans (hB10.mono h10.size)
      have hn11 := blk_below hn10 hB10
      have hR11 := Kd.R_lower hR10 h10.size
      refine hK.out _ _ ⟨(blk_cell (blk_below HU.out h11) 0), (blk_cell (blk_below HA.out h11) 0), (blk_cell (blk_below HA.out h11) 1), (blk_cell (blk_below HA.out h11) 2), (blk_cell (blk_below HBb.out h11) 0), (blk_cell (blk_below HBb.out h11) 1), (blk_cell (blk_below HBb.out h11) 2)⟩ (fun hHeld => ?_)
      clear hK K
      refine norm_ (a' := ?_) ?_ ?_
      rotate_left
      · show Act.put _ (some 33) _ = _
        simp only [Act.put, List.setIfInBounds_toArray, List.set_cons_zero, List.set_cons_succ, i64_w, i32_w]
        rfl
      exact norm_ (by simp only [putAll, Act.put, List.setIfInBounds_toArray, List.set_cons_zero, List.set_cons_succ]) (hCont (A10, c10, w9.heap.size) _ ⟨h11, hR11, hn11⟩)
  rintro ⟨A10, c10, b11⟩ w11 ⟨h11, hR11, hn11⟩
  have hR11 : Kd.R k34 34 w11 wq.heap.size (fun _ => True) (.slice A10 ([cA 1 7] : List S34).length c10) [cA 1 7] := hR11
  have hHeld : w11.cell? ⟨w3.heap.size, 0, none⟩ = some (.slice AU 2 cU) ∧ w11.cell? ⟨w3.heap.size + 1, 0, none⟩ = some (.string ⟨#[97]⟩) ∧ w11.cell? ⟨w3.heap.size + 1, 1, none⟩ = some (.int .i64 1) ∧ w11.cell? ⟨w3.heap.size + 1, 2, none⟩ = some (.int .i64 7) ∧ w11.cell? ⟨w3.heap.size + 1 + 1, 0, none⟩ = some (.string ⟨#[98]⟩) ∧ w11.cell? ⟨w3.heap.size + 1 + 1, 1, none⟩ = some (.int .i64 2) ∧ w11.cell? ⟨w3.heap.size + 1 + 1, 2, none⟩ = some (.int .i64 5) := ⟨blk_cell (blk_below HU.out h11) 0, blk_cell (blk_below HA.out h11) 0, blk_cell (blk_below HA.out h11) 1, blk_cell (blk_below HA.out h11) 2, blk_cell (blk_below HBb.out h11) 0, blk_cell (blk_below HBb.out h11) 1, blk_cell (blk_below HBb.out h11) 2⟩
  refine norm_ (a' := ?_) ?_ ?_
  rotate_left
  · simp only [putAll, Act.put, List.setIfInBounds_toArray, List.set_cons_zero, List.set_cons_succ]
    rfl
  refine one_ (i := 25) (N := some 36) #[true, true, true, true, true, true, true, true, true, true, true, true, true, true, true, true, true, true, true, true, true, true, true, true, true, true, false, false, false, false, false, false, false, false] rfl rfl (by kernel_rfl) (by decide) (fun K hK => ?_)
  refine goes_ Try.func32 (by kernel_rfl) rfl #[.slice (some ⟨b11, 0, none⟩) ([cA 1 7] : List S34).length 1] (by rfl) rfl rfl (by simp only [List.map_toArray, List.map_cons, List.map_nil]; rfl) ?_
  with_reducible refine (codesearchlaw50_counts.calls (fun _ => True) (some ⟨b11, 0, none⟩) 1 [cA 1 7] _ _ (Kd.R_V (one34 (x := cA 1 7) hn11)) rfl).mono ?_
  rintro e w12 ⟨v12, rfl, hV12, hB12⟩
  refine ⟨_, rfl, ?_⟩
  obtain ⟨A12, c12, rfl⟩ := Kd.V_slice hV12
  have h12 := h11.trans (hB12.mono h11.size)
  have hR12 := Kd.R_below hR11 hB12
  refine hK.out _ _ ⟨(blk_cell (blk_below HU.out h12) 0), (blk_cell (blk_below HA.out h12) 0), (blk_cell (blk_below HA.out h12) 1), (blk_cell (blk_below HA.out h12) 2), (blk_cell (blk_below HBb.out h12) 0), (blk_cell (blk_below HBb.out h12) 1), (blk_cell (blk_below HBb.out h12) 2)⟩ (fun hHeld => ?_)
  clear hK K
  refine norm_ (a' := ?_) ?_ ?_
  rotate_left
  · show Act.put _ (some 36) _ = _
    simp only [Act.put, List.setIfInBounds_toArray, List.set_cons_zero, List.set_cons_succ, i64_w, i32_w]
    rfl
  refine one_ (i := 26) (N := some 37) #[true, true, true, true, true, true, true, true, true, true, true, true, true, true, true, true, true, true, true, true, true, true, true, true, true, true, true, false, false, false, false, false, false, false] rfl rfl (by kernel_rfl) (by decide) (fun K hK => ?_)
  refine goes_ Try.func14 (by kernel_rfl) rfl #[.agg #[.slice A10 ([cA 1 7] : List S34).length c10], .agg #[.slice A12 ([cA 1 7] : List S34).length c12]] (by rfl) rfl rfl (by simp only [List.map_toArray, List.map_cons, List.map_nil]; rfl) ?_
  with_reducible refine (codesearchref50_Same.calls 40 A10 c10 [cA 1 7] A12 c12 [cA 1 7] true _ (Kd.R_reads' hR12).2.2 (Kd.R_reads' hR12).2.1 (Kd.V_reads' hV12).2.2 (Kd.V_reads' hV12).2.1 sa_2).mono ?_
  rintro e w13 ⟨rfl, hB13⟩
  refine ⟨_, rfl, ?_⟩
  have h13 := h12.trans (hB13.mono h12.size)
  refine hK.out _ _ ⟨(blk_cell (blk_below HU.out h13) 0), (blk_cell (blk_below HA.out h13) 0), (blk_cell (blk_below HA.out h13) 1), (blk_cell (blk_below HA.out h13) 2), (blk_cell (blk_below HBb.out h13) 0), (blk_cell (blk_below HBb.out h13) 1), (blk_cell (blk_below HBb.out h13) 2)⟩ (fun hHeld => ?_)
  clear hK K
  refine norm_ (a' := ?_) ?_ ?_
  rotate_left
  · show Act.put _ (some 37) _ = _
    simp only [Act.put, List.setIfInBounds_toArray, List.set_cons_zero, List.set_cons_succ, i64_w, i32_w]
    rfl
  refine pure_ (i := 27) (N := some 38) (v := ?_) (a' := ?_) #[true, true, true, true, true, true, true, true, true, true, true, true, true, true, true, true, true, true, true, true, true, true, true, true, true, true, true, true, false, false, false, false, false, false] rfl rfl (by kernel_rfl) (fun _ _ _ h => h) (Or.inl ⟨by rfl, ?_⟩) ?_ ?_
  rotate_left
  · intro w'
    go_simp
    with_reducible rfl
  rotate_left
  · simp only [Act.put, List.setIfInBounds_toArray, List.set_cons_zero, List.set_cons_succ, i64_w, i32_w]
    rfl
  refine pure_ (i := 28) (N := some 39) (v := ?_) (a' := ?_) #[true, true, true, true, true, true, true, true, true, true, true, true, true, true, true, true, true, true, true, true, true, true, true, true, true, true, true, true, true, false, false, false, false, false] rfl rfl (by kernel_rfl) (fun _ _ _ h => h) (Or.inl ⟨by rfl, ?_⟩) ?_ ?_
  rotate_left
  · intro w'
    go_simp
    with_reducible rfl
  rotate_left
  · simp only [Act.put, List.setIfInBounds_toArray, List.set_cons_zero, List.set_cons_succ, i64_w, i32_w]
    rfl
  refine pure_ (i := 29) (N := some 40) (v := ?_) (a' := ?_) #[true, true, true, true, true, true, true, true, true, true, true, true, true, true, true, true, true, true, true, true, true, true, true, true, true, true, true, true, true, true, false, false, false, false] rfl rfl (by kernel_rfl) (fun _ _ _ h => h) (Or.inl ⟨by rfl, ?_⟩) ?_ ?_
  rotate_left
  · intro w'
    go_simp
    with_reducible rfl
  rotate_left
  · simp only [Act.put, List.setIfInBounds_toArray, List.set_cons_zero, List.set_cons_succ, i64_w, i32_w]
    rfl
  refine take_ (i := 30) (N := some 41) (v := ?_) (a' := ?_) #[true, true, true, true, true, true, true, true, true, true, true, true, true, true, true, true, true, true, true, true, true, true, true, true, true, true, true, true, true, true, true, false, false, false] rfl rfl (by kernel_rfl) (fun _ _ _ h => h) (Or.inl ⟨by rfl, ?_⟩) hHeld ?_ ?_
  rotate_left
  · rintro w' ⟨s0, s1, s2, s3, s4, s5, s6⟩
    go_simp
    with_reducible rfl
  rotate_left
  · simp only [Act.put, List.setIfInBounds_toArray, List.set_cons_zero, List.set_cons_succ, i64_w, i32_w]
    rfl
  refine one_ (i := 31) (N := some 42) #[true, true, true, true, true, true, true, true, true, true, true, true, true, true, true, true, true, true, true, true, true, true, true, true, true, true, true, true, true, true, true, true, false, false] rfl rfl (by kernel_rfl) (by decide) (fun K hK => ?_)
  refine goes_ Try.func12 (by kernel_rfl) rfl #[.agg #[.slice AU ([cA 1 7, cB 2 5] : List S34).length cU]] (by rfl) rfl rfl (by simp only [List.map_toArray, List.map_cons, List.map_nil]; rfl) ?_
  with_reducible refine (usage_Right.calls 40 AU cU [cA 1 7, cB 2 5] true _ (Kd.C_below HC4.out h13) hcU ri_1).mono ?_
  rintro e w14 ⟨rfl, hB14⟩
  refine ⟨_, rfl, ?_⟩
  have h14 := h13.trans (hB14.mono h13.size)
  refine hK.out _ _ ⟨(blk_cell (blk_below HU.out h14) 0), (blk_cell (blk_below HA.out h14) 0), (blk_cell (blk_below HA.out h14) 1), (blk_cell (blk_below HA.out h14) 2), (blk_cell (blk_below HBb.out h14) 0), (blk_cell (blk_below HBb.out h14) 1), (blk_cell (blk_below HBb.out h14) 2)⟩ (fun hHeld => ?_)
  clear hK K
  refine norm_ (a' := ?_) ?_ ?_
  rotate_left
  · show Act.put _ (some 42) _ = _
    simp only [Act.put, List.setIfInBounds_toArray, List.set_cons_zero, List.set_cons_succ, i64_w, i32_w]
    rfl
  refine pure_ (i := 32) (N := some 43) (v := ?_) (a' := ?_) #[true, true, true, true, true, true, true, true, true, true, true, true, true, true, true, true, true, true, true, true, true, true, true, true, true, true, true, true, true, true, true, true, true, false] rfl rfl (by kernel_rfl) (fun _ _ _ h => h) (Or.inl ⟨by rfl, ?_⟩) ?_ ?_
  rotate_left
  · intro w'
    go_simp
    with_reducible rfl
  rotate_left
  · simp only [Act.put, List.setIfInBounds_toArray, List.set_cons_zero, List.set_cons_succ, i64_w, i32_w]
    rfl
  refine pure_ (i := 33) (N := some 44) (v := ?_) (a' := ?_) #[true, true, true, true, true, true, true, true, true, true, true, true, true, true, true, true, true, true, true, true, true, true, true, true, true, true, true, true, true, true, true, true, true, true] rfl rfl (by kernel_rfl) (fun _ _ _ h => h) (Or.inl ⟨by rfl, ?_⟩) ?_ ?_
  rotate_left
  · intro w'
    go_simp
    with_reducible rfl
  rotate_left
  · simp only [Act.put, List.setIfInBounds_toArray, List.set_cons_zero, List.set_cons_succ, i64_w, i32_w]
    rfl
  refine done_ (by kernel_rfl) ?_

  have HU14 := Lib.hid (blk_below HU.out h14)
  have HB14 := Lib.hid (HB4.out.trans (h14.mono HB4.out.size))
  have HC14 := Lib.hid (Kd.C_below HC4.out h14)
  have HV14 := Lib.hid (Kd.V_below HV4.out h14)
  clear zu za0 za1 za2 zb0 zb1 zb2 HA HBb HU HB4 HC4 HV4 hHeld h3 h4 h5 h6 h8 h9 h11 h12 h13 h14 hB4 hB5 hB6 hD9 hB12 hB13 hB14 hR8 hR11 hR12 hV4 hV12 hn3 hn8 hn11
  have hn15 := World.alloc_heap_new w14 (.cells #[.string ⟨#[97]⟩, .int .i64 999999, .int .i64 2] 34)
  have hB15 : Below w14.heap.size w14 (w14.alloc (.cells #[.string ⟨#[97]⟩, .int .i64 999999, .int .i64 2] 34)) := (Below.refl _ _).alloc (Nat.le_refl _) _
  have HN15 := Lib.hid hn15; have HB15 := Lib.hid hB15; clear hn15 hB15
  go_wp2_with fail
  refine (codesearchlaw50_counts.calls (fun _ => True) (some ⟨w14.heap.size, 0, none⟩) 1 [cA 999999 2] _ _ (Kd.R_V (one34 (x := cA 999999 2) HN15.out)) rfl).mono ?_
  rintro e w16 ⟨v16, rfl, hV16, hB16⟩
  obtain ⟨A16, c16, rfl⟩ := Kd.V_slice hV16
  have h16 := HB15.out.trans (hB16.mono HB15.out.size)
  have hn17 := World.alloc_heap_new w16 (.cells #[.string ⟨#[97]⟩, .int .i64 5, .int .i64 1] 34)
  have hb17 : Below w16.heap.size w16 (w16.alloc (.cells #[.string ⟨#[97]⟩, .int .i64 5, .int .i64 1] 34)) := (Below.refl _ _).alloc (Nat.le_refl _) _
  have HV17 := Lib.hid (Kd.V_below hV16 hb17)
  have HB17 := Lib.hid (h16.trans (hb17.mono h16.size))
  have HN17 := Lib.hid hn17
  clear hn17 hb17 h16 hB16 hV16 HN15 HB15
  go_wp2_with fail
  refine (codesearchlaw50_counts.calls (fun _ => True) (some ⟨w16.heap.size, 0, none⟩) 1 [cA 5 1] _ _ (Kd.R_V (one34 (x := cA 5 1) HN17.out)) rfl).mono ?_
  rintro e w18 ⟨v18, rfl, hV18, hB18⟩
  obtain ⟨A18, c18, rfl⟩ := Kd.V_slice hV18
  have hV19 := Kd.V_below HV17.out hB18
  have HB18 := Lib.hid (HB17.out.trans (hB18.mono HB17.out.size))
  have HC18 := Lib.hid (Kd.V_reads' hV18)
  have HC19 := Lib.hid (Kd.V_reads' hV19)
  clear hV18 hV19 hB18 HV17 HB17 HN17
  go_wp2_with fail
  refine (usage_Merge.calls A16 c16 [cA 999999 2] A18 c18 [cA 5 1] [cA 1000000 2] _ HC19.out.2.2 HC19.out.2.1 HC18.out.2.2 HC18.out.2.1 al_4).mono ?_
  rintro e w20 ⟨v20, rfl, hR20, hB20⟩
  obtain ⟨AM, cM, rfl⟩ := Kd.R_slice hR20
  have HB20 := Lib.hid (HB18.out.trans (hB20.mono HB18.out.size))
  have HR20 := Lib.hid hR20
  clear hB20 hR20 HB18 HC18 HC19
  go_upto_region 6 with (fail)
  have hm21 := World.alloc_heap_new w20 (.cells #[.slice AM 1 cM] 24)
  have hb21 : Below w20.heap.size w20 (w20.alloc (.cells #[.slice AM 1 cM] 24)) := (Below.refl _ _).alloc (Nat.le_refl _) _
  have HM := Lib.hid hm21
  have HR21 := Lib.hid (Kd.R_reads' (Kd.R_below HR20.out hb21))
  have HB21 := Lib.hid (HB20.out.trans (hb21.mono HB20.out.size))
  clear hm21 hb21 HR20 HB20
  generalize w20.alloc (.cells #[.slice AM 1 cM] 24) = wm at HM HR21 HB21 ⊢
  have HUm := Lib.hid (blk_below HU14.out HB21.out)
  have zm : wm.cell? ⟨w20.heap.size, 0, none⟩ = some (.slice AM 1 cM) := blk_cell HM.out 0
  have zu : wm.cell? ⟨w3.heap.size, 0, none⟩ = some (.slice AU 2 cU) := blk_cell HUm.out 0
  have hq : ∀ w, (binOp .neq 34 (.agg #[.string ⟨#[99]⟩, .int .i64 0, .int .i64 0]) (.agg #[.string ⟨#[99]⟩, .int .i64 0, .int .i64 0])).run Try.prog w = .ok (.bool false) w := fun w => by kernel_rfl
  have h2 : Below wm.heap.size wm (wm.drew.alloc (.cells #[.string ⟨#[97]⟩, .int .i64 1000000, .int .i64 2] 34)) := (below_drew (Below.refl _ _)).alloc (Nat.le_refl _) _
  have hn2 := World.alloc_heap_new wm.drew (.cells #[.string ⟨#[97]⟩, .int .i64 1000000, .int .i64 2] 34)
  refine start_ (n := 12) (S := fun w' => w'.cell? ⟨w20.heap.size, 0, none⟩ = some (.slice AM 1 cM) ∧ w'.cell? ⟨w3.heap.size, 0, none⟩ = some (.slice AU 2 cU)) (ds := []) #[false, false, false, false, false, false, false, false, false, false, false, false] (by kernel_rfl) rfl rfl ⟨zm, zu⟩ (fun hHeld => ?_)
  refine pure_ (i := 1) (N := some 53) (v := ?_) (a' := ?_) #[false, true, false, false, false, false, false, false, false, false, false, false] rfl rfl (by kernel_rfl) (fun _ _ _ h => h) (Or.inl ⟨by rfl, ?_⟩) ?_ ?_
  rotate_left
  · intro w'
    go_simp
    with_reducible rfl
  rotate_left
  · simp only [Act.put, List.setIfInBounds_toArray, List.set_cons_zero, List.set_cons_succ, i64_w, i32_w]
    rfl
  refine take_ (i := 0) (N := some 52) (v := ?_) (a' := ?_) #[true, true, false, false, false, false, false, false, false, false, false, false] rfl rfl (by kernel_rfl) (fun _ _ _ h => h) (Or.inl ⟨by rfl, ?_⟩) hHeld ?_ ?_
  rotate_left
  · rintro w' ⟨s0, s1⟩
    go_simp
    with_reducible rfl
  rotate_left
  · simp only [Act.put, List.setIfInBounds_toArray, List.set_cons_zero, List.set_cons_succ, i64_w, i32_w]
    rfl
  refine one_ (i := 2) (N := some 54) #[true, true, true, false, false, false, false, false, false, false, false, false] rfl rfl (by kernel_rfl) (by decide) (fun K hK => ?_)
  refine value_ (w1 := ?_) (v := ?_) (by rfl) rfl ?_ ?_
  rotate_left 2
  · go_simp
    constructor
    · rfl
    · rfl
  refine hK.out _ _ ⟨(blk_cell (blk_below HM.out h2) 0), (blk_cell (blk_below HUm.out h2) 0)⟩ (fun hHeld => ?_)
  clear hK K
  refine norm_ (a' := ?_) ?_ ?_
  rotate_left
  · show Act.put _ (some 54) _ = _
    simp only [Act.put, List.setIfInBounds_toArray, List.set_cons_zero, List.set_cons_succ, i64_w, i32_w]
    rfl
  refine one_ (i := 3) (N := some 55) #[true, true, true, true, false, false, false, false, false, false, false, false] rfl rfl (by kernel_rfl) (by decide) (fun K hK => ?_)
  refine goes_ Try.func32 (by kernel_rfl) rfl #[.slice (some ⟨wm.drew.heap.size, 0, none⟩) ([cA 1000000 2] : List S34).length 1] (by rfl) rfl rfl (by simp only [List.map_toArray, List.map_cons, List.map_nil]; rfl) ?_
  with_reducible refine (codesearchlaw50_counts.calls (fun _ => True) (some ⟨wm.drew.heap.size, 0, none⟩) 1 [cA 1000000 2] _ _ (Kd.R_V (one34 (x := cA 1000000 2) hn2)) rfl).mono ?_
  rintro e w22 ⟨v22, rfl, hV22, hB22⟩
  refine ⟨_, rfl, ?_⟩
  obtain ⟨A22, c22, rfl⟩ := Kd.V_slice hV22
  have h22 := h2.trans (hB22.mono h2.size)
  refine hK.out _ _ ⟨(blk_cell (blk_below HM.out h22) 0), (blk_cell (blk_below HUm.out h22) 0)⟩ (fun hHeld => ?_)
  clear hK K
  refine norm_ (a' := ?_) ?_ ?_
  rotate_left
  · show Act.put _ (some 55) _ = _
    simp only [Act.put, List.setIfInBounds_toArray, List.set_cons_zero, List.set_cons_succ, i64_w, i32_w]
    rfl
  refine one_ (i := 4) (N := some 56) #[true, true, true, true, true, false, false, false, false, false, false, false] rfl rfl (by kernel_rfl) (by decide) (fun K hK => ?_)
  refine goes_ Try.func14 (by kernel_rfl) rfl #[.agg #[.slice AM ([cA 1000000 2] : List S34).length cM], .agg #[.slice A22 ([cA 1000000 2] : List S34).length c22]] (by rfl) rfl rfl (by simp only [List.map_toArray, List.map_cons, List.map_nil]; rfl) ?_
  with_reducible refine (codesearchref50_Same.calls 40 AM cM [cA 1000000 2] A22 c22 [cA 1000000 2] true _ (Kd.C_below HR21.out.2.2 h22) HR21.out.2.1 (Kd.V_reads' hV22).2.2 (Kd.V_reads' hV22).2.1 sa_3).mono ?_
  rintro e w23 ⟨rfl, hB23⟩
  refine ⟨_, rfl, ?_⟩
  have h23 := h22.trans (hB23.mono h22.size)
  refine hK.out _ _ ⟨(blk_cell (blk_below HM.out h23) 0), (blk_cell (blk_below HUm.out h23) 0)⟩ (fun hHeld => ?_)
  clear hK K
  refine norm_ (a' := ?_) ?_ ?_
  rotate_left
  · show Act.put _ (some 56) _ = _
    simp only [Act.put, List.setIfInBounds_toArray, List.set_cons_zero, List.set_cons_succ, i64_w, i32_w]
    rfl
  refine pure_ (i := 5) (N := some 57) (v := ?_) (a' := ?_) #[true, true, true, true, true, true, false, false, false, false, false, false] rfl rfl (by kernel_rfl) (fun _ _ _ h => h) (Or.inl ⟨by rfl, ?_⟩) ?_ ?_
  rotate_left
  · intro w'
    go_simp
    with_reducible rfl
  rotate_left
  · simp only [Act.put, List.setIfInBounds_toArray, List.set_cons_zero, List.set_cons_succ, i64_w, i32_w]
    rfl
  refine pure_ (i := 6) (N := some 58) (v := ?_) (a' := ?_) #[true, true, true, true, true, true, true, false, false, false, false, false] rfl rfl (by kernel_rfl) (fun _ _ _ h => h) (Or.inl ⟨by rfl, ?_⟩) ?_ ?_
  rotate_left
  · intro w'
    go_simp
    with_reducible rfl
  rotate_left
  · simp only [Act.put, List.setIfInBounds_toArray, List.set_cons_zero, List.set_cons_succ, i64_w, i32_w]
    rfl
  refine pure_ (i := 9) (N := some 61) (v := ?_) (a' := ?_) #[true, true, true, true, true, true, true, false, false, true, false, false] rfl rfl (by kernel_rfl) (fun _ _ _ h => h) (Or.inl ⟨by rfl, ?_⟩) ?_ ?_
  rotate_left
  · intro w'
    go_simp
    with_reducible rfl
  rotate_left
  · simp only [Act.put, List.setIfInBounds_toArray, List.set_cons_zero, List.set_cons_succ, i64_w, i32_w]
    rfl
  refine take_ (i := 7) (N := some 59) (v := ?_) (a' := ?_) #[true, true, true, true, true, true, true, true, false, true, false, false] rfl rfl (by kernel_rfl) (fun _ _ _ h => h) (Or.inl ⟨by rfl, ?_⟩) hHeld ?_ ?_
  rotate_left
  · rintro w' ⟨s0, s1⟩
    go_simp
    with_reducible rfl
  rotate_left
  · simp only [Act.put, List.setIfInBounds_toArray, List.set_cons_zero, List.set_cons_succ, i64_w, i32_w]
    rfl
  refine one_ (i := 8) (N := some 60) #[true, true, true, true, true, true, true, true, true, true, false, false] rfl rfl (by kernel_rfl) (by decide) (fun K hK => ?_)
  refine goes_ Try.func17 (by kernel_rfl) rfl #[.agg #[.slice AU ([cA 1 7, cB 2 5] : List S34).length cU], .string ⟨#[99]⟩] (by rfl) rfl rfl (by simp only [List.map_toArray, List.map_cons, List.map_nil]; rfl) ?_
  with_reducible refine (usage_Get.calls 40 AU cU [cA 1 7, cB 2 5] ⟨#[99]⟩ ⟨#[99]⟩ 0 0 _ (Kd.C_below HC14.out (HB21.out.trans (h23.mono HB21.out.size))) hcU ge_1).mono ?_
  rintro e w24 ⟨rfl, hB24⟩
  refine ⟨_, rfl, ?_⟩
  have h24 := h23.trans (hB24.mono h23.size)
  refine hK.out _ _ ⟨(blk_cell (blk_below HM.out h24) 0), (blk_cell (blk_below HUm.out h24) 0)⟩ (fun hHeld => ?_)
  clear hK K
  refine norm_ (a' := ?_) ?_ ?_
  rotate_left
  · show Act.put _ (some 60) _ = _
    simp only [Act.put, List.setIfInBounds_toArray, List.set_cons_zero, List.set_cons_succ, i64_w, i32_w]
    rfl
  refine pure_ (i := 10) (N := some 62) (v := ?_) (a' := ?_) #[true, true, true, true, true, true, true, true, true, true, true, false] rfl rfl (by kernel_rfl) (fun _ _ _ h => h) (Or.inl ⟨by rfl, ?_⟩) ?_ ?_
  rotate_left
  · intro w'
    go_simp
    with_reducible rfl
  rotate_left
  · simp only [Act.put, List.setIfInBounds_toArray, List.set_cons_zero, List.set_cons_succ, i64_w, i32_w]
    rfl
  refine pure_ (i := 11) (N := some 63) (v := ?_) (a' := ?_) #[true, true, true, true, true, true, true, true, true, true, true, true] rfl rfl (by kernel_rfl) (fun _ _ _ h => h) (Or.inl ⟨by rfl, ?_⟩) ?_ ?_
  rotate_left
  · intro w'
    go_simp
    with_reducible rfl
  rotate_left
  · simp only [Act.put, List.setIfInBounds_toArray, List.set_cons_zero, List.set_cons_succ, i64_w, i32_w]
    rfl
  refine done_ (by kernel_rfl) ?_

  have hA24 := HB21.out.trans (h24.mono HB21.out.size)
  have HU24 := Lib.hid (blk_below HU14.out hA24)
  have HB24 := Lib.hid (HB14.out.trans (hA24.mono HB14.out.size))
  have HC24 := Lib.hid (Kd.C_below HC14.out hA24)
  have HV24 := Lib.hid (Kd.V_below HV14.out hA24)
  clear zm zu hq h2 hn2 h22 h23 h24 hA24 hV22 hB22 hB23 hB24 hHeld HM HR21 HB21 HUm HU14 HB14 HC14 HV14
  go_upto_region 8 with (fail)
  have zu : w24.cell? ⟨w3.heap.size, 0, none⟩ = some (.slice AU 2 cU) := blk_cell HU24.out 0
  refine start_ (n := 18) (S := fun w' => w'.cell? ⟨w3.heap.size, 0, none⟩ = some (.slice AU 2 cU)) (ds := []) #[false, false, false, false, false, false, false, false, false, false, false, false, false, false, false, false, false, false] (by kernel_rfl) rfl rfl (zu) (fun hHeld => ?_)
  refine take_ (i := 0) (N := some 64) (v := ?_) (a' := ?_) #[true, false, false, false, false, false, false, false, false, false, false, false, false, false, false, false, false, false] rfl rfl (by kernel_rfl) (fun _ _ _ h => h) (Or.inl ⟨by rfl, ?_⟩) hHeld ?_ ?_
  rotate_left
  · intro w' s0
    go_simp
    with_reducible rfl
  rotate_left
  · simp only [Act.put, List.setIfInBounds_toArray, List.set_cons_zero, List.set_cons_succ, i64_w, i32_w]
    rfl
  refine join_ (σ := (Option Addr × Nat × Nat × Nat)) 14 #[true, true, true, true, false, false, false, false, false, false, false, false, false, false, false, false, false, false] (fun s_ => [(65, .slice (some ⟨s_.2.2.1, 0, none⟩) 4 4), (66, .slice s_.1 ([⟨#[99]⟩, ⟨#[98]⟩, ⟨#[99]⟩] : List ByteArray).length s_.2.1), (67, .slice (some ⟨s_.2.2.2, 0, none⟩) 3 3)]) (fun s_ w' => Below w24.heap.size w24 w' ∧ Kd.R Kd.string 9 w' w24.heap.size (fun _ => True) (.slice s_.1 ([⟨#[99]⟩, ⟨#[98]⟩, ⟨#[99]⟩] : List ByteArray).length s_.2.1) ([⟨#[99]⟩, ⟨#[98]⟩, ⟨#[99]⟩] : List ByteArray) ∧ w'.heap[s_.2.2.2]? = some (.cells #[.string ⟨#[99]⟩, .string ⟨#[98]⟩, .string ⟨#[99]⟩] 9 (0, 0))) ?_ ?_
  rotate_left
  · intro hCont
    refine two_ (i := 1) (j := 3) (Ni := some 65) (Nj := some 67) #[true, true, false, false, false, false, false, false, false, false, false, false, false, false, false, false, false, false] #[true, false, false, true, false, false, false, false, false, false, false, false, false, false, false, false, false, false] rfl rfl rfl rfl (by kernel_rfl) (by decide) (by decide) (fun K hK => ?_) (fun K hK => ?_)
    · skip
      refine value_ (w1 := ?_) (v := ?_) (by rfl) rfl ?_ ?_
      rotate_left 2
      · go_simp
        constructor
        · rfl
        · rfl
      have hn1 := blk_drew (World.alloc_heap_new w24 (.cells #[.string ⟨#[99]⟩, .string ⟨#[98]⟩, .string ⟨#[97]⟩, .string ⟨#[99]⟩] 9))
      have h1 : Below w24.heap.size w24 (w24.alloc (.cells #[.string ⟨#[99]⟩, .string ⟨#[98]⟩, .string ⟨#[97]⟩, .string ⟨#[99]⟩] 9)).drew := below_drew ((Below.refl _ _).alloc (Nat.le_refl _) _)
      refine hK.out _ _ ((blk_cell (blk_below HU24.out h1) 0)) (fun hHeld => ?_)
      clear hK K
      refine norm_ (a' := ?_) ?_ ?_
      rotate_left
      · show Act.put _ (some 65) _ = _
        simp only [Act.put, List.setIfInBounds_toArray, List.set_cons_zero, List.set_cons_succ, i64_w, i32_w]
        rfl
      refine two_ (i := 2) (j := 3) (Ni := some 66) (Nj := some 67) #[true, true, true, false, false, false, false, false, false, false, false, false, false, false, false, false, false, false] #[true, true, false, true, false, false, false, false, false, false, false, false, false, false, false, false, false, false] rfl rfl rfl rfl (by kernel_rfl) (by decide) (by decide) (fun K hK => ?_) (fun K hK => ?_)
      · skip
        refine goes_ Try.func27 (by kernel_rfl) rfl #[.agg #[.slice AU ([cA 1 7, cB 2 5] : List S34).length cU], .slice (some ⟨w24.heap.size, 0, none⟩) ([⟨#[99]⟩, ⟨#[98]⟩, ⟨#[97]⟩, ⟨#[99]⟩] : List ByteArray).length 4, .int .i64 6] (by rfl) rfl rfl (by simp only [List.map_toArray, List.map_cons, List.map_nil]; rfl) ?_
        with_reducible refine (usage_Cold.calls 40 AU cU [cA 1 7, cB 2 5] (some ⟨w24.heap.size, 0, none⟩) 4 ([⟨#[99]⟩, ⟨#[98]⟩, ⟨#[97]⟩, ⟨#[99]⟩] : List ByteArray) 6 ([⟨#[99]⟩, ⟨#[98]⟩, ⟨#[99]⟩] : List ByteArray) _ (Kd.C_below HC24.out h1) hcU (strs_C (l := ([⟨#[99]⟩, ⟨#[98]⟩, ⟨#[97]⟩, ⟨#[99]⟩] : List ByteArray)) hn1 (fun i s h => four_at i s h) (by unfold maxLen; decide)) (Nat.le_refl _) co_1).mono ?_
        rintro e wA ⟨v8, rfl, hR8, hB8⟩
        refine ⟨_, rfl, ?_⟩
        obtain ⟨A8, c8, rfl⟩ := Kd.R_slice hR8
        have h2 := h1.trans (hB8.mono h1.size)
        have hn3 := World.alloc_heap_new wA (.cells #[.string ⟨#[99]⟩, .string ⟨#[98]⟩, .string ⟨#[99]⟩] 9)
        have h3 : Below w24.heap.size w24 (wA.alloc (.cells #[.string ⟨#[99]⟩, .string ⟨#[98]⟩, .string ⟨#[99]⟩] 9)) := h2.alloc h2.size _
        have hR3 := Kd.R_lower (Kd.R_below hR8 ((Below.refl wA.heap.size wA).alloc (Nat.le_refl _) (.cells #[.string ⟨#[99]⟩, .string ⟨#[98]⟩, .string ⟨#[99]⟩] 9))) h1.size
        refine hK.out _ _ ((blk_cell (blk_below HU24.out h2) 0)) (fun hHeld => ?_)
        clear hK K
        refine norm_ (a' := ?_) ?_ ?_
        rotate_left
        · show Act.put _ (some 66) _ = _
          simp only [Act.put, List.setIfInBounds_toArray, List.set_cons_zero, List.set_cons_succ, i64_w, i32_w]
          rfl
        refine one_ (i := 3) (N := some 67) #[true, true, true, true, false, false, false, false, false, false, false, false, false, false, false, false, false, false] rfl rfl (by kernel_rfl) (by decide) (fun K hK => ?_)
        refine value_ (w1 := ?_) (v := ?_) (by rfl) rfl ?_ ?_
        rotate_left 2
        · go_simp
          constructor
          · rfl
          · rfl
        refine hK.out _ _ ((blk_cell (blk_below HU24.out h3) 0)) (fun hHeld => ?_)
        clear hK K
        refine norm_ (a' := ?_) ?_ ?_
        rotate_left
        · show Act.put _ (some 67) _ = _
          simp only [Act.put, List.setIfInBounds_toArray, List.set_cons_zero, List.set_cons_succ, i64_w, i32_w]
          rfl
        exact norm_ (by simp only [putAll, Act.put, List.setIfInBounds_toArray, List.set_cons_zero, List.set_cons_succ]) (hCont (A8, c8, w24.heap.size, wA.heap.size) _ ⟨h3, hR3, hn3⟩)
      · skip
        refine value_ (w1 := ?_) (v := ?_) (by rfl) rfl ?_ ?_
        rotate_left 2
        · go_simp
          constructor
          · rfl
          · rfl
        have hn2 := World.alloc_heap_new (w24.alloc (.cells #[.string ⟨#[99]⟩, .string ⟨#[98]⟩, .string ⟨#[97]⟩, .string ⟨#[99]⟩] 9)) (.cells #[.string ⟨#[99]⟩, .string ⟨#[98]⟩, .string ⟨#[99]⟩] 9)
        rw [World.size_alloc] at hn2
        replace hn2 := blk_drew hn2
        have h2 : Below w24.heap.size w24 ((w24.alloc (.cells #[.string ⟨#[99]⟩, .string ⟨#[98]⟩, .string ⟨#[97]⟩, .string ⟨#[99]⟩] 9)).alloc (.cells #[.string ⟨#[99]⟩, .string ⟨#[98]⟩, .string ⟨#[99]⟩] 9)).drew := below_drew (((Below.refl _ _).alloc (Nat.le_refl _) _).alloc (by simp) _)
        refine hK.out _ _ ((blk_cell (blk_below HU24.out h2) 0)) (fun hHeld => ?_)
        clear hK K
        refine norm_ (a' := ?_) ?_ ?_
        rotate_left
        · show Act.put _ (some 67) _ = _
          simp only [Act.put, List.setIfInBounds_toArray, List.set_cons_zero, List.set_cons_succ, i64_w, i32_w]
          rfl
        refine one_ (i := 2) (N := some 66) #[true, true, true, true, false, false, false, false, false, false, false, false, false, false, false, false, false, false] rfl rfl (by kernel_rfl) (by decide) (fun K hK => ?_)
        refine goes_ Try.func27 (by kernel_rfl) rfl #[.agg #[.slice AU ([cA 1 7, cB 2 5] : List S34).length cU], .slice (some ⟨w24.heap.size, 0, none⟩) ([⟨#[99]⟩, ⟨#[98]⟩, ⟨#[97]⟩, ⟨#[99]⟩] : List ByteArray).length 4, .int .i64 6] (by rfl) rfl rfl (by simp only [List.map_toArray, List.map_cons, List.map_nil]; rfl) ?_
        with_reducible refine (usage_Cold.calls 40 AU cU [cA 1 7, cB 2 5] (some ⟨w24.heap.size, 0, none⟩) 4 ([⟨#[99]⟩, ⟨#[98]⟩, ⟨#[97]⟩, ⟨#[99]⟩] : List ByteArray) 6 ([⟨#[99]⟩, ⟨#[98]⟩, ⟨#[99]⟩] : List ByteArray) _ (Kd.C_below HC24.out h2) hcU (strs_C (l := ([⟨#[99]⟩, ⟨#[98]⟩, ⟨#[97]⟩, ⟨#[99]⟩] : List ByteArray)) (blk_drew (blk_alloc (World.alloc_heap_new w24 (.cells #[.string ⟨#[99]⟩, .string ⟨#[98]⟩, .string ⟨#[97]⟩, .string ⟨#[99]⟩] 9)) (.cells #[.string ⟨#[99]⟩, .string ⟨#[98]⟩, .string ⟨#[99]⟩] 9))) (fun i s h => four_at i s h) (by unfold maxLen; decide)) (Nat.le_refl _) co_1).mono ?_
        rintro e wA ⟨v8, rfl, hR8, hB8⟩
        refine ⟨_, rfl, ?_⟩
        obtain ⟨A8, c8, rfl⟩ := Kd.R_slice hR8
        have h3 := h2.trans (hB8.mono h2.size)
        have hn3 := blk_below hn2 hB8
        have hR3 := Kd.R_lower hR8 h2.size
        refine hK.out _ _ ((blk_cell (blk_below HU24.out h3) 0)) (fun hHeld => ?_)
        clear hK K
        refine norm_ (a' := ?_) ?_ ?_
        rotate_left
        · show Act.put _ (some 66) _ = _
          simp only [Act.put, List.setIfInBounds_toArray, List.set_cons_zero, List.set_cons_succ, i64_w, i32_w]
          rfl
        exact norm_ (by simp only [putAll, Act.put, List.setIfInBounds_toArray, List.set_cons_zero, List.set_cons_succ]) (hCont (A8, c8, w24.heap.size, w24.heap.size + 1) _ ⟨h3, hR3, hn3⟩)
    · skip
      refine value_ (w1 := ?_) (v := ?_) (by rfl) rfl ?_ ?_
      rotate_left 2
      · go_simp
        constructor
        · rfl
        · rfl
      have hn1 := blk_drew (World.alloc_heap_new w24 (.cells #[.string ⟨#[99]⟩, .string ⟨#[98]⟩, .string ⟨#[99]⟩] 9))
      have h1 : Below w24.heap.size w24 (w24.alloc (.cells #[.string ⟨#[99]⟩, .string ⟨#[98]⟩, .string ⟨#[99]⟩] 9)).drew := below_drew ((Below.refl _ _).alloc (Nat.le_refl _) _)
      refine hK.out _ _ ((blk_cell (blk_below HU24.out h1) 0)) (fun hHeld => ?_)
      clear hK K
      refine norm_ (a' := ?_) ?_ ?_
      rotate_left
      · show Act.put _ (some 67) _ = _
        simp only [Act.put, List.setIfInBounds_toArray, List.set_cons_zero, List.set_cons_succ, i64_w, i32_w]
        rfl
      refine one_ (i := 1) (N := some 65) #[true, true, false, true, false, false, false, false, false, false, false, false, false, false, false, false, false, false] rfl rfl (by kernel_rfl) (by decide) (fun K hK => ?_)
      refine value_ (w1 := ?_) (v := ?_) (by rfl) rfl ?_ ?_
      rotate_left 2
      · go_simp
        constructor
        · rfl
        · rfl
      have hn2 := World.alloc_heap_new (w24.alloc (.cells #[.string ⟨#[99]⟩, .string ⟨#[98]⟩, .string ⟨#[99]⟩] 9)) (.cells #[.string ⟨#[99]⟩, .string ⟨#[98]⟩, .string ⟨#[97]⟩, .string ⟨#[99]⟩] 9)
      rw [World.size_alloc] at hn2
      replace hn2 := blk_drew hn2
      have h2 : Below w24.heap.size w24 ((w24.alloc (.cells #[.string ⟨#[99]⟩, .string ⟨#[98]⟩, .string ⟨#[99]⟩] 9)).alloc (.cells #[.string ⟨#[99]⟩, .string ⟨#[98]⟩, .string ⟨#[97]⟩, .string ⟨#[99]⟩] 9)).drew := below_drew (((Below.refl _ _).alloc (Nat.le_refl _) _).alloc (by simp) _)
      refine hK.out _ _ ((blk_cell (blk_below HU24.out h2) 0)) (fun hHeld => ?_)
      clear hK K
      refine norm_ (a' := ?_) ?_ ?_
      rotate_left
      · show Act.put _ (some 65) _ = _
        simp only [Act.put, List.setIfInBounds_toArray, List.set_cons_zero, List.set_cons_succ, i64_w, i32_w]
        rfl
      refine one_ (i := 2) (N := some 66) #[true, true, true, true, false, false, false, false, false, false, false, false, false, false, false, false, false, false] rfl rfl (by kernel_rfl) (by decide) (fun K hK => ?_)
      refine goes_ Try.func27 (by kernel_rfl) rfl #[.agg #[.slice AU ([cA 1 7, cB 2 5] : List S34).length cU], .slice (some ⟨w24.heap.size + 1, 0, none⟩) ([⟨#[99]⟩, ⟨#[98]⟩, ⟨#[97]⟩, ⟨#[99]⟩] : List ByteArray).length 4, .int .i64 6] (by rfl) rfl rfl (by simp only [List.map_toArray, List.map_cons, List.map_nil]; rfl) ?_
      with_reducible refine (usage_Cold.calls 40 AU cU [cA 1 7, cB 2 5] (some ⟨w24.heap.size + 1, 0, none⟩) 4 ([⟨#[99]⟩, ⟨#[98]⟩, ⟨#[97]⟩, ⟨#[99]⟩] : List ByteArray) 6 ([⟨#[99]⟩, ⟨#[98]⟩, ⟨#[99]⟩] : List ByteArray) _ (Kd.C_below HC24.out h2) hcU (strs_C (l := ([⟨#[99]⟩, ⟨#[98]⟩, ⟨#[97]⟩, ⟨#[99]⟩] : List ByteArray)) hn2 (fun i s h => four_at i s h) (by unfold maxLen; decide)) (Nat.le_refl _) co_1).mono ?_
      rintro e wA ⟨v8, rfl, hR8, hB8⟩
      refine ⟨_, rfl, ?_⟩
      obtain ⟨A8, c8, rfl⟩ := Kd.R_slice hR8
      have h3 := h2.trans (hB8.mono h2.size)
      have hn3 := blk_below (blk_drew (blk_alloc (World.alloc_heap_new w24 (.cells #[.string ⟨#[99]⟩, .string ⟨#[98]⟩, .string ⟨#[99]⟩] 9)) (.cells #[.string ⟨#[99]⟩, .string ⟨#[98]⟩, .string ⟨#[97]⟩, .string ⟨#[99]⟩] 9))) hB8
      have hR3 := Kd.R_lower hR8 h2.size
      refine hK.out _ _ ((blk_cell (blk_below HU24.out h3) 0)) (fun hHeld => ?_)
      clear hK K
      refine norm_ (a' := ?_) ?_ ?_
      rotate_left
      · show Act.put _ (some 66) _ = _
        simp only [Act.put, List.setIfInBounds_toArray, List.set_cons_zero, List.set_cons_succ, i64_w, i32_w]
        rfl
      exact norm_ (by simp only [putAll, Act.put, List.setIfInBounds_toArray, List.set_cons_zero, List.set_cons_succ]) (hCont (A8, c8, w24.heap.size + 1, w24.heap.size) _ ⟨h3, hR3, hn3⟩)
  rintro ⟨A8, c8, b1, b3⟩ w25 ⟨h3, hR3, hn3⟩
  have hR3 : Kd.R Kd.string 9 w25 w24.heap.size (fun _ => True) (.slice A8 ([⟨#[99]⟩, ⟨#[98]⟩, ⟨#[99]⟩] : List ByteArray).length c8) ([⟨#[99]⟩, ⟨#[98]⟩, ⟨#[99]⟩] : List ByteArray) := hR3
  have hHeld : w25.cell? ⟨w3.heap.size, 0, none⟩ = some (.slice AU 2 cU) := blk_cell (blk_below HU24.out h3) 0
  refine norm_ (a' := ?_) ?_ ?_
  rotate_left
  · simp only [putAll, Act.put, List.setIfInBounds_toArray, List.set_cons_zero, List.set_cons_succ]
    rfl
  refine one_ (i := 4) (N := some 68) #[true, true, true, true, true, false, false, false, false, false, false, false, false, false, false, false, false, false] rfl rfl (by kernel_rfl) (by decide) (fun K hK => ?_)
  refine goes_ Try.func26 (by kernel_rfl) rfl #[.slice A8 ([⟨#[99]⟩, ⟨#[98]⟩, ⟨#[99]⟩] : List ByteArray).length c8, .slice (some ⟨b3, 0, none⟩) ([⟨#[99]⟩, ⟨#[98]⟩, ⟨#[99]⟩] : List ByteArray).length 3] (by rfl) rfl rfl (by simp only [List.map_toArray, List.map_cons, List.map_nil]; rfl) ?_
  with_reducible refine (codesearchref14_SameText.calls 40 A8 c8 ([⟨#[99]⟩, ⟨#[98]⟩, ⟨#[99]⟩] : List ByteArray) (some ⟨b3, 0, none⟩) 3 ([⟨#[99]⟩, ⟨#[98]⟩, ⟨#[99]⟩] : List ByteArray) true _ (Kd.R_reads' hR3).2.2 (Kd.R_reads' hR3).2.1 (strs_C (l := ([⟨#[99]⟩, ⟨#[98]⟩, ⟨#[99]⟩] : List ByteArray)) hn3 (fun i s h => three_at i s h) (by unfold maxLen; decide)) (Nat.le_refl _) st_1).mono ?_
  rintro e w26 ⟨rfl, hD26⟩
  refine ⟨_, rfl, ?_⟩
  have h26 := h3.trans ((Drawn0.below hD26).mono h3.size)
  refine hK.out _ _ ((blk_cell (blk_below HU24.out h26) 0)) (fun hHeld => ?_)
  clear hK K
  refine norm_ (a' := ?_) ?_ ?_
  rotate_left
  · show Act.put _ (some 68) _ = _
    simp only [Act.put, List.setIfInBounds_toArray, List.set_cons_zero, List.set_cons_succ, i64_w, i32_w]
    rfl
  refine pure_ (i := 5) (N := some 69) (v := ?_) (a' := ?_) #[true, true, true, true, true, true, false, false, false, false, false, false, false, false, false, false, false, false] rfl rfl (by kernel_rfl) (fun _ _ _ h => h) (Or.inl ⟨by rfl, ?_⟩) ?_ ?_
  rotate_left
  · intro w'
    go_simp
    with_reducible rfl
  rotate_left
  · simp only [Act.put, List.setIfInBounds_toArray, List.set_cons_zero, List.set_cons_succ, i64_w, i32_w]
    rfl
  refine take_ (i := 6) (N := some 70) (v := ?_) (a' := ?_) #[true, true, true, true, true, true, true, false, false, false, false, false, false, false, false, false, false, false] rfl rfl (by kernel_rfl) (fun _ _ _ h => h) (Or.inl ⟨by rfl, ?_⟩) hHeld ?_ ?_
  rotate_left
  · intro w' s0
    go_simp
    with_reducible rfl
  rotate_left
  · simp only [Act.put, List.setIfInBounds_toArray, List.set_cons_zero, List.set_cons_succ, i64_w, i32_w]
    rfl
  refine take_ (i := 8) (N := some 72) (v := ?_) (a' := ?_) #[true, true, true, true, true, true, true, false, true, false, false, false, false, false, false, false, false, false] rfl rfl (by kernel_rfl) (fun _ _ _ h => h) (Or.inl ⟨by rfl, ?_⟩) hHeld ?_ ?_
  rotate_left
  · intro w' s0
    go_simp
    with_reducible rfl
  rotate_left
  · simp only [Act.put, List.setIfInBounds_toArray, List.set_cons_zero, List.set_cons_succ, i64_w, i32_w]
    rfl
  refine one_ (i := 7) (N := some 71) #[true, true, true, true, true, true, true, true, true, false, false, false, false, false, false, false, false, false] rfl rfl (by kernel_rfl) (by decide) (fun K hK => ?_)
  refine goes_ Try.func31 (by kernel_rfl) rfl #[.agg #[.slice AU ([cA 1 7, cB 2 5] : List S34).length cU], .string ⟨#[]⟩, .int .i64 1] (by rfl) rfl rfl (by simp only [List.map_toArray, List.map_cons, List.map_nil]; rfl) ?_
  with_reducible refine (usage_Add.calls _ AU cU [cA 1 7, cB 2 5] ⟨#[]⟩ 1 _ _ (V_base50 (Kd.V_below HV24.out h26)) ad_4).mono ?_
  rintro e w27 ⟨v27, rfl, hV27, hB27⟩
  refine ⟨_, rfl, ?_⟩
  obtain ⟨A27, c27, rfl⟩ := Kd.V_slice hV27
  have h27 := h26.trans (hB27.mono h26.size)
  refine hK.out _ _ ((blk_cell (blk_below HU24.out h27) 0)) (fun hHeld => ?_)
  clear hK K
  refine norm_ (a' := ?_) ?_ ?_
  rotate_left
  · show Act.put _ (some 71) _ = _
    simp only [Act.put, List.setIfInBounds_toArray, List.set_cons_zero, List.set_cons_succ, i64_w, i32_w]
    rfl
  refine one_ (i := 9) (N := some 73) #[true, true, true, true, true, true, true, true, true, true, false, false, false, false, false, false, false, false] rfl rfl (by kernel_rfl) (by decide) (fun K hK => ?_)
  refine goes_ Try.func14 (by kernel_rfl) rfl #[.agg #[.slice A27 ([cA 1 7, cB 2 5] : List S34).length c27], .agg #[.slice AU ([cA 1 7, cB 2 5] : List S34).length cU]] (by rfl) rfl rfl (by simp only [List.map_toArray, List.map_cons, List.map_nil]; rfl) ?_
  with_reducible refine (codesearchref50_Same.calls 40 A27 c27 [cA 1 7, cB 2 5] AU cU [cA 1 7, cB 2 5] true _ (Kd.V_reads' hV27).2.2 (Kd.V_reads' hV27).2.1 (Kd.C_below HC24.out h27) hcU sa_1).mono ?_
  rintro e w28 ⟨rfl, hB28⟩
  refine ⟨_, rfl, ?_⟩
  have h28 := h27.trans (hB28.mono h27.size)
  refine hK.out _ _ ((blk_cell (blk_below HU24.out h28) 0)) (fun hHeld => ?_)
  clear hK K
  refine norm_ (a' := ?_) ?_ ?_
  rotate_left
  · show Act.put _ (some 73) _ = _
    simp only [Act.put, List.setIfInBounds_toArray, List.set_cons_zero, List.set_cons_succ, i64_w, i32_w]
    rfl
  refine pure_ (i := 10) (N := some 74) (v := ?_) (a' := ?_) #[true, true, true, true, true, true, true, true, true, true, true, false, false, false, false, false, false, false] rfl rfl (by kernel_rfl) (fun _ _ _ h => h) (Or.inl ⟨by rfl, ?_⟩) ?_ ?_
  rotate_left
  · intro w'
    go_simp
    with_reducible rfl
  rotate_left
  · simp only [Act.put, List.setIfInBounds_toArray, List.set_cons_zero, List.set_cons_succ, i64_w, i32_w]
    rfl
  refine pure_ (i := 11) (N := some 75) (v := ?_) (a' := ?_) #[true, true, true, true, true, true, true, true, true, true, true, true, false, false, false, false, false, false] rfl rfl (by kernel_rfl) (fun _ _ _ h => h) (Or.inl ⟨by rfl, ?_⟩) ?_ ?_
  rotate_left
  · intro w'
    go_simp
    with_reducible rfl
  rotate_left
  · simp only [Act.put, List.setIfInBounds_toArray, List.set_cons_zero, List.set_cons_succ, i64_w, i32_w]
    rfl
  refine take_ (i := 12) (N := some 76) (v := ?_) (a' := ?_) #[true, true, true, true, true, true, true, true, true, true, true, true, true, false, false, false, false, false] rfl rfl (by kernel_rfl) (fun _ _ _ h => h) (Or.inl ⟨by rfl, ?_⟩) hHeld ?_ ?_
  rotate_left
  · intro w' s0
    go_simp
    with_reducible rfl
  rotate_left
  · simp only [Act.put, List.setIfInBounds_toArray, List.set_cons_zero, List.set_cons_succ, i64_w, i32_w]
    rfl
  refine take_ (i := 14) (N := some 78) (v := ?_) (a' := ?_) #[true, true, true, true, true, true, true, true, true, true, true, true, true, false, true, false, false, false] rfl rfl (by kernel_rfl) (fun _ _ _ h => h) (Or.inl ⟨by rfl, ?_⟩) hHeld ?_ ?_
  rotate_left
  · intro w' s0
    go_simp
    with_reducible rfl
  rotate_left
  · simp only [Act.put, List.setIfInBounds_toArray, List.set_cons_zero, List.set_cons_succ, i64_w, i32_w]
    rfl
  refine one_ (i := 13) (N := some 77) #[true, true, true, true, true, true, true, true, true, true, true, true, true, true, true, false, false, false] rfl rfl (by kernel_rfl) (by decide) (fun K hK => ?_)
  refine goes_ Try.func31 (by kernel_rfl) rfl #[.agg #[.slice AU ([cA 1 7, cB 2 5] : List S34).length cU], .string ⟨#[97]⟩, .int .i64 (-1)] (by rfl) rfl rfl (by simp only [List.map_toArray, List.map_cons, List.map_nil]; rfl) ?_
  with_reducible refine (usage_Add.calls _ AU cU [cA 1 7, cB 2 5] ⟨#[97]⟩ (-1) _ _ (V_base50 (Kd.V_below HV24.out h28)) ad_5).mono ?_
  rintro e w29 ⟨v29, rfl, hV29, hB29⟩
  refine ⟨_, rfl, ?_⟩
  obtain ⟨A29, c29, rfl⟩ := Kd.V_slice hV29
  have h29 := h28.trans (hB29.mono h28.size)
  refine hK.out _ _ ((blk_cell (blk_below HU24.out h29) 0)) (fun hHeld => ?_)
  clear hK K
  refine norm_ (a' := ?_) ?_ ?_
  rotate_left
  · show Act.put _ (some 77) _ = _
    simp only [Act.put, List.setIfInBounds_toArray, List.set_cons_zero, List.set_cons_succ, i64_w, i32_w]
    rfl
  refine one_ (i := 15) (N := some 79) #[true, true, true, true, true, true, true, true, true, true, true, true, true, true, true, true, false, false] rfl rfl (by kernel_rfl) (by decide) (fun K hK => ?_)
  refine goes_ Try.func14 (by kernel_rfl) rfl #[.agg #[.slice A29 ([cA 1 7, cB 2 5] : List S34).length c29], .agg #[.slice AU ([cA 1 7, cB 2 5] : List S34).length cU]] (by rfl) rfl rfl (by simp only [List.map_toArray, List.map_cons, List.map_nil]; rfl) ?_
  with_reducible refine (codesearchref50_Same.calls 40 A29 c29 [cA 1 7, cB 2 5] AU cU [cA 1 7, cB 2 5] true _ (Kd.V_reads' hV29).2.2 (Kd.V_reads' hV29).2.1 (Kd.C_below HC24.out h29) hcU sa_1).mono ?_
  rintro e w30 ⟨rfl, hB30⟩
  refine ⟨_, rfl, ?_⟩
  have h30 := h29.trans (hB30.mono h29.size)
  refine hK.out _ _ ((blk_cell (blk_below HU24.out h30) 0)) (fun hHeld => ?_)
  clear hK K
  refine norm_ (a' := ?_) ?_ ?_
  rotate_left
  · show Act.put _ (some 79) _ = _
    simp only [Act.put, List.setIfInBounds_toArray, List.set_cons_zero, List.set_cons_succ, i64_w, i32_w]
    rfl
  refine pure_ (i := 16) (N := some 80) (v := ?_) (a' := ?_) #[true, true, true, true, true, true, true, true, true, true, true, true, true, true, true, true, true, false] rfl rfl (by kernel_rfl) (fun _ _ _ h => h) (Or.inl ⟨by rfl, ?_⟩) ?_ ?_
  rotate_left
  · intro w'
    go_simp
    with_reducible rfl
  rotate_left
  · simp only [Act.put, List.setIfInBounds_toArray, List.set_cons_zero, List.set_cons_succ, i64_w, i32_w]
    rfl
  refine pure_ (i := 17) (N := some 0) (v := ?_) (a' := ?_) #[true, true, true, true, true, true, true, true, true, true, true, true, true, true, true, true, true, true] rfl rfl (by kernel_rfl) (fun _ _ _ h => h) (Or.inl ⟨by rfl, ?_⟩) ?_ ?_
  rotate_left
  · intro w'
    go_simp
    with_reducible rfl
  rotate_left
  · simp only [Act.put, List.setIfInBounds_toArray, List.set_cons_zero, List.set_cons_succ, i64_w, i32_w]
    rfl
  refine done_ (by kernel_rfl) ?_

  go_wp2
  go_ret
  exact ⟨rfl, HB24.out.trans (h30.mono HB24.out.size)⟩


end Go.Proofs.Ytbahkbnkbhhcdaa.PAll
