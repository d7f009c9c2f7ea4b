-- Written by this session's program hprint.py over the kit's print. Not trusted: Lean checks it.
import Derived.Test.YtcoidmhdkhpalaaPAllx0
import Derived.Test.YtcoidmhdkhpalaaPAllx4
import Derived.Test.YtcoidmhdkhpalaaPAllx6
import Derived.Test.YtcoidmhdkhpalaaPAllx7
import Derived.Test.YtcoidmhdkhpalaaPAllx8
import Derived.Test.YtcoidmhdkhpalaaPAllx11
import Derived.Test.YtcoidmhdkhpalaaPAllx12
import Derived.Lib.Hide
import Derived.Outline
import Derived.RangeFuncRecord
import Derived.Deep.CutBlock
namespace Go.Proofs.Ytcoidmhdkhpalaa.PAll
open Go.RowKit Go.Proofs.YtcoidmhdkhpalaaW.PrintWords Go.Proofs.YtcoidmhdkhpalaaW.PrintLast Go.Proofs.YtcoidmhdkhpalaaW.PrintMore
attribute [local go_sem] max2_int min2_int max_two min_two max_three min_three max_four min_four   -- for this text's walks alone
set_option linter.unusedVariables false
set_option linter.unusedSimpArgs false

--HAND notify_alive.tpl
--HANDIMPORT Derived.Lib.Hide
--HANDIMPORT Derived.Outline
--HANDIMPORT Derived.RangeFuncRecord
--HANDIMPORT Derived.Deep.CutBlock

/-! ### codesearchlaw49_alive: function 10 -/

abbrev b10_0 : Array Bool := #[false, false, false, false, false, false, false, false, false, false]
abbrev b10_1 : Array Bool := #[false, true, false, false, false, false, false, false, false, false]
abbrev b10_2 : Array Bool := #[false, true, true, false, false, false, false, false, false, false]
abbrev b10_3 : Array Bool := #[true, true, true, false, false, false, false, false, false, false]
abbrev b10_4 : Array Bool := #[true, true, true, true, false, false, false, false, false, false]
abbrev b10_5 : Array Bool := #[true, true, true, true, true, false, false, false, false, false]
abbrev b10_6 : Array Bool := #[true, true, true, true, true, true, false, false, false, false]
abbrev b10_7 : Array Bool := #[true, true, true, true, true, true, true, false, false, false]
abbrev b10_8 : Array Bool := #[true, true, true, true, true, true, true, true, false, false]
abbrev b10_9 : Array Bool := #[true, true, true, true, true, true, true, true, true, false]
abbrev b10_10 : Array Bool := #[true, true, true, true, true, true, true, true, true, true]
abbrev b10_11 : Array Bool := #[true, true, true, true, true, true, true, true, true, true, false, false, false]
abbrev b10_12 : Array Bool := #[true, true, true, true, true, true, true, true, true, false, false, false, false]
abbrev b10_13 : Array Bool := #[true, true, true, true, false, false, false, false, false, true, false, false, false]
abbrev b10_14 : Array Bool := #[true, true, true, true, false, false, false, false, false, false, false, false, false]
abbrev b10_15 : Array Bool := #[true, true, true, false, false, false, false, false, false, true, false, false, false]
abbrev b10_16 : Array Bool := #[false, false, true, true, false, false, false, false, false, true, false, false, false]
abbrev b10_17 : Array Bool := #[true, true, true, false, false, false, false, false, false, false, false, false, false]
abbrev b10_18 : Array Bool := #[false, false, true, true, false, false, false, false, false, false, false, false, false]
abbrev b10_19 : Array Bool := #[false, false, true, false, false, false, false, false, false, true, false, false, false]
def alertA9 : S36 := ⟨1, 1, ⟨#[114]⟩, ⟨#[97]⟩⟩
def alertB9 : S36 := ⟨1, 2, ⟨#[114]⟩, ⟨#[98]⟩⟩
def letterA9 : S38 := ⟨3, 1, alertA9⟩
def letterB9 : S38 := ⟨3, 2, alertB9⟩
theorem alive9_1 : notify_Open.f 3 = some (3, 0, [], 3, 1, [], []) := by kernel_rfl
theorem alive9_2 : notify_Post.f 40 3 0 [] [alertA9, alertB9] = some (3, 2, [letterA9, letterB9], [letterA9, letterB9], 0) := by kernel_rfl
theorem alive9_3 : notify_Pending.f 3 2 [letterA9, letterB9] = some [letterA9, letterB9] := by kernel_rfl
theorem alive9_4 : notify_Receive.f 3 1 [] [] 3 2 1 2 ⟨#[114]⟩ ⟨#[98]⟩ = some (3, 1, [], [letterB9], 0) := by kernel_rfl
theorem alive9_5 : notify_Right.f 40 3 2 [letterA9, letterB9] 3 1 [] [letterB9] = some true := by kernel_rfl
theorem alive9_6 : notify_Receive.f 3 1 [] [letterB9] 3 1 1 1 ⟨#[114]⟩ ⟨#[97]⟩ = some (3, 3, [alertA9, alertB9], [], 2) := by kernel_rfl
theorem alive9_7 : codesearchref49_Alerts.f 40 [alertA9, alertB9] [alertA9, alertB9] = some true := by kernel_rfl
theorem alive9_8 : notify_Ack.f 40 3 2 [letterA9, letterB9] 2 = some (3, 2, []) := by kernel_rfl
theorem alive9_9 : notify_Pending.f 3 2 [] = some [] := by kernel_rfl
theorem alive9_a : notify_Post.f 40 0 9999 [] [alertA9] = some (0, 0, [], [], 2) := by kernel_rfl
theorem alive9_b : notify_Post.f 40 0 0 (List.replicate 64 z38) [alertA9] = some (0, 0, [], [], 9) := by kernel_rfl
theorem alive9_c : notify_Right.f 40 0 0 [] 0 0 [] [] = some false := by kernel_rfl
def codesearchlaw49_alive.f (k : Nat) : Option Bool := if 40 ≤ k then some true else none
theorem codesearchlaw49_alive.mono : ∀ k, LeO (codesearchlaw49_alive.f k) (codesearchlaw49_alive.f (k + 1)) := by
  intro k r h
  unfold codesearchlaw49_alive.f at h ⊢
  by_cases c : 40 ≤ k
  · rw [if_pos c] at h; rw [if_pos (by omega)]; exact h
  · rw [if_neg c] at h; exact absurd h (by simp)
theorem cellN_9 {w : World} {g : Nat} {cur : Array Value} {l : List S38} (hb : w.heap[g]? = some (.cells cur 38 (0, 0))) (H : cur.toList.take (l.length * 6) = flatN l) (j : Nat) (v : Value) (hv : (flatN l)[j]? = some v) : w.cell? ⟨g, j, none⟩ = some v := by
  rw [← H, List.getElem?_take] at hv
  split at hv
  · rw [blk_cell hb]; simpa using hv
  · cases hv
theorem two36_9 {w : World} {b : Nat} {x y : S36} (hn : w.heap[b]? = some (.cells #[.int .i64 x.f0, .int .i64 x.f1, .string x.f2, .string x.f3, .int .i64 y.f0, .int .i64 y.f1, .string y.f2, .string y.f3] 36 (0, 0))) : Kd.C k36 w (some ⟨b, 0, none⟩) ([x, y] : List S36).length [x, y] := by
  refine ⟨rfl, by simp [maxLen], fun _ => ⟨_, rfl, fun j p hj => ?_⟩⟩
  match j, hj with
  | 0, hj =>
    obtain rfl : x = p := by simpa using hj
    refine ⟨[.int .i64 x.f0, .int .i64 x.f1, .string x.f2, .string x.f3], rfl, k36_mk _ _, fun i u hu => ?_⟩
    rw [Addr.add_lit, blk_cell hn]
    match i, hu with
    | 0, hu => simpa using hu
    | 1, hu => simpa using hu
    | 2, hu => simpa using hu
    | 3, hu => simpa using hu
  | 1, hj =>
    obtain rfl : y = p := by simpa using hj
    refine ⟨[.int .i64 y.f0, .int .i64 y.f1, .string y.f2, .string y.f3], rfl, k36_mk _ _, fun i u hu => ?_⟩
    rw [Addr.add_lit, blk_cell hn, show 1 * k36.sz = 4 from rfl]
    match i, hu with
    | 0, hu => simpa using hu
    | 1, hu => simpa using hu
    | 2, hu => simpa using hu
    | 3, hu => simpa using hu
theorem one36_9 {w : World} {b : Nat} {x : S36} (hn : w.heap[b]? = some (.cells #[.int .i64 x.f0, .int .i64 x.f1, .string x.f2, .string x.f3] 36 (0, 0))) : Kd.C k36 w (some ⟨b, 0, none⟩) ([x] : List S36).length [x] := (Kd.R_reads' (box36_R hn (Nat.zero_le _))).2.2
def zeros64_9 : Array Value := Builtin.zeroCells (Value.agg #[.int .i64 0, .int .i64 0, .int .i64 0, .int .i64 0, .string ⟨#[]⟩, .string ⟨#[]⟩]).cells 64
theorem mk64_9 : ∀ w, (Instr.makeSlice 22 (.int .i64 64) (.int .i64 64)).run Try.prog w = .ok (.slice (some ⟨w.heap.size, 0, none⟩) 64 64) (w.alloc (.cells zeros64_9 38)) := fun w => by kernel_rfl
theorem flat64_9 : zeros64_9.toList.take ((List.replicate 64 z38).length * 6) = flatN (List.replicate 64 z38) := by kernel_rfl
theorem c64_9 {w : World} {b : Nat} (hb : w.heap[b]? = some (.cells zeros64_9 38 (0, 0))) : Kd.C k38 w (some ⟨b, 0, none⟩) (List.replicate 64 z38).length (List.replicate 64 z38) :=
  (Kd.R_reads' (R_shutN (base := 0) (c := 64) rfl (Nat.zero_le _) hb (by simp) (by unfold maxLen; omega) (by kernel_rfl) flat64_9)).2.2
theorem vbase9 {α : Type} {d : Kd α} {e b b' : Nat} {ok : Nat → Prop} {W : World} {v : Value} {xs : List α} (h : Kd.V d e W b ok v xs) : Kd.V d e W b' ok v xs := h
theorem v4set_9 {α : Type} {d : Kd α} {e b X : Nat} {w : World} {v : Value} {xs : List α} (h : Kd.V d e w b (fun k => k ≠ X) v xs) (a1 a2 a3 a4 : Value) : Kd.V d e ((((w.setCell ⟨X, 0, none⟩ a1).setCell ⟨X, 1, none⟩ a2).setCell ⟨X, 2, none⟩ a3).setCell ⟨X, 3, none⟩ a4) b (fun k => k ≠ X) v xs :=
  Kd.V_far (p := ⟨X, 3, none⟩) (Kd.V_far (p := ⟨X, 2, none⟩) (Kd.V_far (p := ⟨X, 1, none⟩) (Kd.V_far (p := ⟨X, 0, none⟩) h (fun _ h => h) a1) (fun _ h => h) a2) (fun _ h => h) a3) (fun _ h => h) a4
set_option maxRecDepth 100000 in
set_option maxHeartbeats 8000000 in
theorem codesearchlaw49_alive.calls (k : Nat) (r : Bool) (w : World) (h : codesearchlaw49_alive.f k = some r) :
    Calls Try.prog 10 #[] w fun e w' => e = .returned (.bool r) ∧ Below w.heap.size w w' := by
  obtain rfl : r = true := by
    unfold codesearchlaw49_alive.f at h
    split at h <;> simp_all
  clear h
  go_enter Try.func10, Try.ntmps10
  go_wp2_with fail
  refine (notify_Open.calls 3 3 0 [] 3 1 [] [] w alive9_1).mono ?_; rintro e w1 ⟨v2, v5, v6, rfl, hR2, hR5, hR6, hB1⟩; obtain ⟨A2, c2, rfl⟩ := Kd.R_slice hR2; obtain ⟨A5, c5, rfl⟩ := Kd.R_slice hR5; obtain ⟨A6, c6, rfl⟩ := Kd.R_slice hR6; have HR2 := Lib.hid (Kd.R_reads' hR2); have HR5 := Lib.hid (Kd.R_mono hR5 (ok' := fun _ => True) (fun _ _ => trivial)); have HR6 := Lib.hid (Kd.R_mono hR6 (ok' := fun _ => True) (fun _ _ => trivial)); have HB1 := Lib.hid hB1; have HB1le : w.heap.size ≤ w1.heap.size := HB1.out.size; clear hR2 hR5 hR6 hB1
  go_upto_region 4 with (fail)

  have hO := blk_alloc (blk_alloc (blk_alloc (World.alloc_heap_new w1 (.cells #[.int .i64 3, .int .i64 0, .slice A2 0 c2] 24)) (.cells #[.int .i64 3, .int .i64 1, .slice A5 0 c5, .slice A6 0 c6] 34)) (.cells #[.int .i64 1, .int .i64 1, .string ⟨#[114]⟩, .string ⟨#[97]⟩] 36)) (.cells #[.int .i64 1, .int .i64 2, .string ⟨#[114]⟩, .string ⟨#[98]⟩] 36); have hX := World.alloc_heap_new (w1.alloc (.cells #[.int .i64 3, .int .i64 0, .slice A2 0 c2] 24)) (.cells #[.int .i64 3, .int .i64 1, .slice A5 0 c5, .slice A6 0 c6] 34); rw [World.size_alloc] at hX; replace hX := blk_alloc (blk_alloc hX (.cells #[.int .i64 1, .int .i64 1, .string ⟨#[114]⟩, .string ⟨#[97]⟩] 36)) (.cells #[.int .i64 1, .int .i64 2, .string ⟨#[114]⟩, .string ⟨#[98]⟩] 36); have hA := World.alloc_heap_new ((w1.alloc (.cells #[.int .i64 3, .int .i64 0, .slice A2 0 c2] 24)).alloc (.cells #[.int .i64 3, .int .i64 1, .slice A5 0 c5, .slice A6 0 c6] 34)) (.cells #[.int .i64 1, .int .i64 1, .string ⟨#[114]⟩, .string ⟨#[97]⟩] 36); rw [World.size_alloc, World.size_alloc] at hA; replace hA := blk_alloc hA (.cells #[.int .i64 1, .int .i64 2, .string ⟨#[114]⟩, .string ⟨#[98]⟩] 36); have hB := World.alloc_heap_new (((w1.alloc (.cells #[.int .i64 3, .int .i64 0, .slice A2 0 c2] 24)).alloc (.cells #[.int .i64 3, .int .i64 1, .slice A5 0 c5, .slice A6 0 c6] 34)).alloc (.cells #[.int .i64 1, .int .i64 1, .string ⟨#[114]⟩, .string ⟨#[97]⟩] 36)) (.cells #[.int .i64 1, .int .i64 2, .string ⟨#[114]⟩, .string ⟨#[98]⟩] 36); rw [World.size_alloc, World.size_alloc, World.size_alloc] at hB; have hb4 : Below w1.heap.size w1 ((((w1.alloc (.cells #[.int .i64 3, .int .i64 0, .slice A2 0 c2] 24)).alloc (.cells #[.int .i64 3, .int .i64 1, .slice A5 0 c5, .slice A6 0 c6] 34)).alloc (.cells #[.int .i64 1, .int .i64 1, .string ⟨#[114]⟩, .string ⟨#[97]⟩] 36)).alloc (.cells #[.int .i64 1, .int .i64 2, .string ⟨#[114]⟩, .string ⟨#[98]⟩] 36)) := ((((Below.refl _ _).alloc (Nat.le_refl _) _).alloc (by simp) _).alloc (by simp; omega) _).alloc (by simp; omega) _; have hs4 : ((((w1.alloc (.cells #[.int .i64 3, .int .i64 0, .slice A2 0 c2] 24)).alloc (.cells #[.int .i64 3, .int .i64 1, .slice A5 0 c5, .slice A6 0 c6] 34)).alloc (.cells #[.int .i64 1, .int .i64 1, .string ⟨#[114]⟩, .string ⟨#[97]⟩] 36)).alloc (.cells #[.int .i64 1, .int .i64 2, .string ⟨#[114]⟩, .string ⟨#[98]⟩] 36)).heap.size = w1.heap.size + 4 := by simp
  have HO := Lib.hid hO; have HX := Lib.hid hX; have HA := Lib.hid hA; have HBb := Lib.hid hB; have HS4 := Lib.hid hs4; have HC2 := Lib.hid (Kd.C_below HR2.out.2.2 hb4); have HR5 := Lib.hid (Kd.R_below HR5.out hb4); have HR6 := Lib.hid (Kd.R_below HR6.out hb4); have HB4 := Lib.hid (HB1.out.trans (hb4.mono HB1.out.size)); have hc2 := HR2.out.2.1; clear hO hX hA hB hb4 hs4 HR2 HB1
  generalize ((((w1.alloc (.cells #[.int .i64 3, .int .i64 0, .slice A2 0 c2] 24)).alloc (.cells #[.int .i64 3, .int .i64 1, .slice A5 0 c5, .slice A6 0 c6] 34)).alloc (.cells #[.int .i64 1, .int .i64 1, .string ⟨#[114]⟩, .string ⟨#[97]⟩] 36)).alloc (.cells #[.int .i64 1, .int .i64 2, .string ⟨#[114]⟩, .string ⟨#[98]⟩] 36)) = w4 at HO HX HA HBb HS4 HC2 HR5 HR6 HB4 ⊢
  have zO0 : w4.cell? ⟨w1.heap.size, 0, none⟩ = some (.int .i64 3) := blk_cell HO.out 0; have zO1 : w4.cell? ⟨w1.heap.size, 1, none⟩ = some (.int .i64 0) := blk_cell HO.out 1; have zO2 : w4.cell? ⟨w1.heap.size, 2, none⟩ = some (.slice A2 0 c2) := blk_cell HO.out 2; have zA0 : w4.cell? ⟨w1.heap.size + 1 + 1, 0, none⟩ = some (.int .i64 1) := blk_cell HA.out 0; have zA1 : w4.cell? ⟨w1.heap.size + 1 + 1, 1, none⟩ = some (.int .i64 1) := blk_cell HA.out 1; have zA2 : w4.cell? ⟨w1.heap.size + 1 + 1, 2, none⟩ = some (.string ⟨#[114]⟩) := blk_cell HA.out 2; have zA3 : w4.cell? ⟨w1.heap.size + 1 + 1, 3, none⟩ = some (.string ⟨#[97]⟩) := blk_cell HA.out 3; have zB0 : w4.cell? ⟨w1.heap.size + 1 + 1 + 1, 0, none⟩ = some (.int .i64 1) := blk_cell HBb.out 0; have zB1 : w4.cell? ⟨w1.heap.size + 1 + 1 + 1, 1, none⟩ = some (.int .i64 2) := blk_cell HBb.out 1; have zB2 : w4.cell? ⟨w1.heap.size + 1 + 1 + 1, 2, none⟩ = some (.string ⟨#[114]⟩) := blk_cell HBb.out 2; have zB3 : w4.cell? ⟨w1.heap.size + 1 + 1 + 1, 3, none⟩ = some (.string ⟨#[98]⟩) := blk_cell HBb.out 3; have zF0 := blk_frozen HO.out 0; have zF1 := blk_frozen HO.out 1; have zF2 := blk_frozen HO.out 2; have hn5 := World.alloc_heap_new w4 (.cells #[.int .i64 1, .int .i64 1, .string ⟨#[114]⟩, .string ⟨#[97]⟩, .int .i64 1, .int .i64 2, .string ⟨#[114]⟩, .string ⟨#[98]⟩] 36); have hb5 : Below w4.heap.size w4 (w4.alloc (.cells #[.int .i64 1, .int .i64 1, .string ⟨#[114]⟩, .string ⟨#[97]⟩, .int .i64 1, .int .i64 2, .string ⟨#[114]⟩, .string ⟨#[98]⟩] 36)) := (Below.refl _ _).alloc (Nat.le_refl _) _; have HN5 := Lib.hid hn5; have HB5 := Lib.hid hb5; clear hn5 hb5
  go_wp2_with fail
  refine (notify_Post.calls 40 3 0 A2 c2 [] (some ⟨w4.heap.size, 0, none⟩) 2 [alertA9, alertB9] 3 2 [letterA9, letterB9] [letterA9, letterB9] 0 _ (Kd.C_below HC2.out HB5.out) hc2 (two36_9 (x := alertA9) (y := alertB9) HN5.out) (Nat.le_refl _) alive9_2).mono ?_; rintro e w6 ⟨vO, vL, rfl, hRO, hRL, hB6⟩; obtain ⟨AO, cO, rfl⟩ := Kd.R_slice hRO; have h6 := HB5.out.trans (hB6.mono HB5.out.size); have hO6 := blk_below HO.out h6; have hX6 := blk_below HX.out h6; have hA6 := blk_below HA.out h6; have hBb6 := blk_below HBb.out h6; have HR5 := Lib.hid (Kd.R_below HR5.out h6); have HR6 := Lib.hid (Kd.R_below HR6.out h6); have HB6 := Lib.hid (HB4.out.trans (h6.mono HB4.out.size)); have hRO := Kd.R_mono (ok' := fun _ => True) hRO (fun _ _ => trivial); have hRL := Kd.R_mono (ok' := fun _ => True) hRL (fun _ _ => trivial); obtain ⟨AL, cL, rfl⟩ := Kd.R_slice hRL; obtain ⟨gL, cur, hAL, _, hLb, _, _, _, hLp⟩ := (R_openN hRL).resolve_left (fun h => by cases h.1); obtain rfl := hAL; have hOx : _ = some (Obj.cells #[.int .i64 3, .int .i64 2, .slice AO 2 cO] 24 (0, 0)) := blk_put (blk_put (blk_put hO6 0 (.int .i64 3) rfl) 1 (.int .i64 2) rfl) 2 (.slice AO 2 cO) rfl; have yO0 : w6.cell? ⟨w1.heap.size, 0, none⟩ = some (.int .i64 3) := blk_cell hO6 0; have yO1 : w6.cell? ⟨w1.heap.size, 1, none⟩ = some (.int .i64 0) := blk_cell hO6 1; have yO2 : w6.cell? ⟨w1.heap.size, 2, none⟩ = some (.slice A2 0 c2) := blk_cell hO6 2; have yF0 := blk_frozen hO6 0; have yF1 := blk_frozen hO6 1; have yF2 := blk_frozen hO6 2; clear zO0 zO1 zO2 zA0 zA1 zA2 zA3 zB0 zB1 zB2 zB3 zF0 zF1 zF2; have HOx := Lib.hid hOx; have HO6 := Lib.hid hO6; have HX6 := Lib.hid hX6; have HA6 := Lib.hid hA6; have HBb6 := Lib.hid hBb6; have HRO := Lib.hid hRO; have HRL := Lib.hid hRL; have HLb := Lib.hid hLb; have HLp := Lib.hid hLp; have H6 := Lib.hid h6; clear hOx hO6 hX6 hA6 hBb6 hRO hRL hLb hLp h6 hB6 HB5 HN5 HC2
  go_upto_region 5 with (fail)
  have HX7 := Lib.hid (show (((w6.setCell ⟨w1.heap.size, 0, none⟩ (.int .i64 3)).setCell ⟨w1.heap.size, 1, none⟩ (.int .i64 2)).setCell ⟨w1.heap.size, 2, none⟩ (.slice AO 2 cO)).heap[w1.heap.size + 1]? = some (.cells #[.int .i64 3, .int .i64 1, .slice A5 0 c5, .slice A6 0 c6] 34 (0, 0)) from (by rw [Below.heap_setCell _ _ _ _ (by simp; try omega), Below.heap_setCell _ _ _ _ (by simp; try omega), Below.heap_setCell _ _ _ _ (by simp; try omega)]; exact HX6.out)); have HA7 := Lib.hid (show (((w6.setCell ⟨w1.heap.size, 0, none⟩ (.int .i64 3)).setCell ⟨w1.heap.size, 1, none⟩ (.int .i64 2)).setCell ⟨w1.heap.size, 2, none⟩ (.slice AO 2 cO)).heap[w1.heap.size + 1 + 1]? = some (.cells #[.int .i64 1, .int .i64 1, .string ⟨#[114]⟩, .string ⟨#[97]⟩] 36 (0, 0)) from (by rw [Below.heap_setCell _ _ _ _ (by simp; try omega), Below.heap_setCell _ _ _ _ (by simp; try omega), Below.heap_setCell _ _ _ _ (by simp; try omega)]; exact HA6.out)); have HBb7 := Lib.hid (show (((w6.setCell ⟨w1.heap.size, 0, none⟩ (.int .i64 3)).setCell ⟨w1.heap.size, 1, none⟩ (.int .i64 2)).setCell ⟨w1.heap.size, 2, none⟩ (.slice AO 2 cO)).heap[w1.heap.size + 1 + 1 + 1]? = some (.cells #[.int .i64 1, .int .i64 2, .string ⟨#[114]⟩, .string ⟨#[98]⟩] 36 (0, 0)) from (by rw [Below.heap_setCell _ _ _ _ (by simp; try omega), Below.heap_setCell _ _ _ _ (by simp; try omega), Below.heap_setCell _ _ _ _ (by simp; try omega)]; exact HBb6.out)); have hLne : gL ≠ w1.heap.size := fun e => by have h1 := HLb.out; rw [e, HO6.out] at h1; cases h1
  have HL7 := Lib.hid (show (((w6.setCell ⟨w1.heap.size, 0, none⟩ (.int .i64 3)).setCell ⟨w1.heap.size, 1, none⟩ (.int .i64 2)).setCell ⟨w1.heap.size, 2, none⟩ (.slice AO 2 cO)).heap[gL]? = some (.cells cur 38 (0, 0)) from (by rw [Below.heap_setCell _ _ _ _ hLne, Below.heap_setCell _ _ _ _ hLne, Below.heap_setCell _ _ _ _ hLne]; exact HLb.out)); have HR57 := Lib.hid (Kd.R_set (Kd.R_set (Kd.R_set HR5.out HO6.out (by decide) 0 _) (blk_put HO6.out 0 (.int .i64 3) rfl) (by decide) 1 _) (blk_put (blk_put HO6.out 0 (.int .i64 3) rfl) 1 (.int .i64 2) rfl) (by decide) 2 (.slice AO 2 cO)); have HR67 := Lib.hid (Kd.R_set (Kd.R_set (Kd.R_set HR6.out HO6.out (by decide) 0 _) (blk_put HO6.out 0 (.int .i64 3) rfl) (by decide) 1 _) (blk_put (blk_put HO6.out 0 (.int .i64 3) rfl) 1 (.int .i64 2) rfl) (by decide) 2 (.slice AO 2 cO)); have HRO7 := Lib.hid (Kd.R_set (Kd.R_set (Kd.R_set HRO.out HO6.out (by decide) 0 _) (blk_put HO6.out 0 (.int .i64 3) rfl) (by decide) 1 _) (blk_put (blk_put HO6.out 0 (.int .i64 3) rfl) 1 (.int .i64 2) rfl) (by decide) 2 (.slice AO 2 cO)); have HRL7 := Lib.hid (Kd.R_set (Kd.R_set (Kd.R_set HRL.out HO6.out (by decide) 0 _) (blk_put HO6.out 0 (.int .i64 3) rfl) (by decide) 1 _) (blk_put (blk_put HO6.out 0 (.int .i64 3) rfl) 1 (.int .i64 2) rfl) (by decide) 2 (.slice AO 2 cO)); have HB7 := Lib.hid (((HB6.out.setCell (p := ⟨w1.heap.size, 0, none⟩) HB1le (.int .i64 3)).setCell (p := ⟨w1.heap.size, 1, none⟩) HB1le (.int .i64 2)).setCell (p := ⟨w1.heap.size, 2, none⟩) HB1le (.slice AO 2 cO)); clear HX6 HA6 HBb6 HLb HR5 HR6 HRO HRL HB6 HO6 H6 HS4 yO0 yO1 yO2 yF0 yF1 yF2
  generalize ((w6.setCell ⟨w1.heap.size, 0, none⟩ (.int .i64 3)).setCell ⟨w1.heap.size, 1, none⟩ (.int .i64 2)).setCell ⟨w1.heap.size, 2, none⟩ (.slice AO 2 cO) = w7 at HOx HX7 HA7 HBb7 HL7 HR57 HR67 HRO7 HRL7 HB7 ⊢
  have zO0 : w7.cell? ⟨w1.heap.size, 0, none⟩ = some (.int .i64 3) := blk_cell HOx.out 0; have zO1 : w7.cell? ⟨w1.heap.size, 1, none⟩ = some (.int .i64 2) := blk_cell HOx.out 1; have zO2 : w7.cell? ⟨w1.heap.size, 2, none⟩ = some (.slice AO 2 cO) := blk_cell HOx.out 2; have zA0 : w7.cell? ⟨w1.heap.size + 1 + 1, 0, none⟩ = some (.int .i64 1) := blk_cell HA7.out 0; have zA1 : w7.cell? ⟨w1.heap.size + 1 + 1, 1, none⟩ = some (.int .i64 1) := blk_cell HA7.out 1; have zA2 : w7.cell? ⟨w1.heap.size + 1 + 1, 2, none⟩ = some (.string ⟨#[114]⟩) := blk_cell HA7.out 2; have zA3 : w7.cell? ⟨w1.heap.size + 1 + 1, 3, none⟩ = some (.string ⟨#[97]⟩) := blk_cell HA7.out 3; have zB0 : w7.cell? ⟨w1.heap.size + 1 + 1 + 1, 0, none⟩ = some (.int .i64 1) := blk_cell HBb7.out 0; have zB1 : w7.cell? ⟨w1.heap.size + 1 + 1 + 1, 1, none⟩ = some (.int .i64 2) := blk_cell HBb7.out 1; have zB2 : w7.cell? ⟨w1.heap.size + 1 + 1 + 1, 2, none⟩ = some (.string ⟨#[114]⟩) := blk_cell HBb7.out 2; have zB3 : w7.cell? ⟨w1.heap.size + 1 + 1 + 1, 3, none⟩ = some (.string ⟨#[98]⟩) := blk_cell HBb7.out 3; have zL0 : w7.cell? ⟨gL, 0, none⟩ = some (.int .i64 3) := cellN_9 (l := [letterA9, letterB9]) HL7.out HLp.out 0 _ rfl; have zL1 : w7.cell? ⟨gL, 1, none⟩ = some (.int .i64 1) := cellN_9 (l := [letterA9, letterB9]) HL7.out HLp.out 1 _ rfl; have zL2 : w7.cell? ⟨gL, 2, none⟩ = some (.int .i64 1) := cellN_9 (l := [letterA9, letterB9]) HL7.out HLp.out 2 _ rfl; have zL3 : w7.cell? ⟨gL, 3, none⟩ = some (.int .i64 1) := cellN_9 (l := [letterA9, letterB9]) HL7.out HLp.out 3 _ rfl; have zL4 : w7.cell? ⟨gL, 4, none⟩ = some (.string ⟨#[114]⟩) := cellN_9 (l := [letterA9, letterB9]) HL7.out HLp.out 4 _ rfl; have zL5 : w7.cell? ⟨gL, 5, none⟩ = some (.string ⟨#[97]⟩) := cellN_9 (l := [letterA9, letterB9]) HL7.out HLp.out 5 _ rfl; have zL6 : w7.cell? ⟨gL, 6, none⟩ = some (.int .i64 3) := cellN_9 (l := [letterA9, letterB9]) HL7.out HLp.out 6 _ rfl; have zL7 : w7.cell? ⟨gL, 7, none⟩ = some (.int .i64 2) := cellN_9 (l := [letterA9, letterB9]) HL7.out HLp.out 7 _ rfl; have zL8 : w7.cell? ⟨gL, 8, none⟩ = some (.int .i64 1) := cellN_9 (l := [letterA9, letterB9]) HL7.out HLp.out 8 _ rfl; have zL9 : w7.cell? ⟨gL, 9, none⟩ = some (.int .i64 2) := cellN_9 (l := [letterA9, letterB9]) HL7.out HLp.out 9 _ rfl; have zL10 : w7.cell? ⟨gL, 10, none⟩ = some (.string ⟨#[114]⟩) := cellN_9 (l := [letterA9, letterB9]) HL7.out HLp.out 10 _ rfl; have zL11 : w7.cell? ⟨gL, 11, none⟩ = some (.string ⟨#[98]⟩) := cellN_9 (l := [letterA9, letterB9]) HL7.out HLp.out 11 _ rfl; have q1 : ∀ w, (binOp .neq 38 (.agg #[.int .i64 3, .int .i64 1, .int .i64 1, .int .i64 1, .string ⟨#[114]⟩, .string ⟨#[97]⟩]) (.agg #[.int .i64 3, .int .i64 1, .int .i64 1, .int .i64 1, .string ⟨#[114]⟩, .string ⟨#[97]⟩])).run Try.prog w = .ok (.bool false) w := fun w => by kernel_rfl
  have q2 : ∀ w, (binOp .neq 38 (.agg #[.int .i64 3, .int .i64 2, .int .i64 1, .int .i64 2, .string ⟨#[114]⟩, .string ⟨#[98]⟩]) (.agg #[.int .i64 3, .int .i64 2, .int .i64 1, .int .i64 2, .string ⟨#[114]⟩, .string ⟨#[98]⟩])).run Try.prog w = .ok (.bool false) w := fun w => by kernel_rfl
  refine start_ (n := 29) (S := fun w' => w'.cell? ⟨w1.heap.size, 0, none⟩ = some (.int .i64 3) ∧ w'.cell? ⟨w1.heap.size, 1, none⟩ = some (.int .i64 2) ∧ w'.cell? ⟨w1.heap.size, 2, none⟩ = some (.slice AO 2 cO) ∧ w'.cell? ⟨w1.heap.size + 1 + 1, 0, none⟩ = some (.int .i64 1) ∧ w'.cell? ⟨w1.heap.size + 1 + 1, 1, none⟩ = some (.int .i64 1) ∧ w'.cell? ⟨w1.heap.size + 1 + 1, 2, none⟩ = some (.string ⟨#[114]⟩) ∧ w'.cell? ⟨w1.heap.size + 1 + 1, 3, none⟩ = some (.string ⟨#[97]⟩) ∧ w'.cell? ⟨w1.heap.size + 1 + 1 + 1, 0, none⟩ = some (.int .i64 1) ∧ w'.cell? ⟨w1.heap.size + 1 + 1 + 1, 1, none⟩ = some (.int .i64 2) ∧ w'.cell? ⟨w1.heap.size + 1 + 1 + 1, 2, none⟩ = some (.string ⟨#[114]⟩) ∧ w'.cell? ⟨w1.heap.size + 1 + 1 + 1, 3, none⟩ = some (.string ⟨#[98]⟩) ∧ w'.cell? ⟨gL, 0, none⟩ = some (.int .i64 3) ∧ w'.cell? ⟨gL, 1, none⟩ = some (.int .i64 1) ∧ w'.cell? ⟨gL, 2, none⟩ = some (.int .i64 1) ∧ w'.cell? ⟨gL, 3, none⟩ = some (.int .i64 1) ∧ w'.cell? ⟨gL, 4, none⟩ = some (.string ⟨#[114]⟩) ∧ w'.cell? ⟨gL, 5, none⟩ = some (.string ⟨#[97]⟩) ∧ w'.cell? ⟨gL, 6, none⟩ = some (.int .i64 3) ∧ w'.cell? ⟨gL, 7, none⟩ = some (.int .i64 2) ∧ w'.cell? ⟨gL, 8, none⟩ = some (.int .i64 1) ∧ w'.cell? ⟨gL, 9, none⟩ = some (.int .i64 2) ∧ w'.cell? ⟨gL, 10, none⟩ = some (.string ⟨#[114]⟩) ∧ w'.cell? ⟨gL, 11, none⟩ = some (.string ⟨#[98]⟩)) (ds := []) #[false, false, false, false, false, false, false, false, false, false, false, false, false, false, false, false, false, false, false, false, false, false, false, false, false, false, false, false, false] (by kernel_rfl) rfl rfl ⟨zO0, zO1, zO2, zA0, zA1, zA2, zA3, zB0, zB1, zB2, zB3, zL0, zL1, zL2, zL3, zL4, zL5, zL6, zL7, zL8, zL9, zL10, zL11⟩ (fun hHeld => ?_); refine pure_ (i := 0) (N := some 29) (v := ?_) (a' := ?_) #[true, false, false, false, false, false, false, false, false, false, false, false, false, false, false, false, false, false, false, false, false, false, false, false, false, false, false, false, false] rfl rfl (by kernel_rfl) (fun _ _ _ h => h) (Or.inl ⟨by rfl, ?_⟩) ?_ ?_; rotate_left
  · intro w'; go_simp
    with_reducible rfl
  rotate_left
  · simp only [Act.put, List.setIfInBounds_toArray, List.set_cons_zero, List.set_cons_succ, i64_w, i32_w]; rfl
  refine pure_ (i := 1) (N := some 30) (v := ?_) (a' := ?_) #[true, true, false, false, false, false, false, false, false, false, false, false, false, false, false, false, false, false, false, false, false, false, false, false, false, false, false, false, false] rfl rfl (by kernel_rfl) (fun _ _ _ h => h) (Or.inl ⟨by rfl, ?_⟩) ?_ ?_; rotate_left
  · intro w'; go_simp
    with_reducible rfl
  rotate_left
  · simp only [Act.put, List.setIfInBounds_toArray, List.set_cons_zero, List.set_cons_succ, i64_w, i32_w]; rfl
  refine pure_ (i := 2) (N := some 31) (v := ?_) (a' := ?_) #[true, true, true, false, false, false, false, false, false, false, false, false, false, false, false, false, false, false, false, false, false, false, false, false, false, false, false, false, false] rfl rfl (by kernel_rfl) (fun _ _ _ h => h) (Or.inl ⟨by rfl, ?_⟩) ?_ ?_; rotate_left
  · intro w'; go_simp
    with_reducible rfl
  rotate_left
  · simp only [Act.put, List.setIfInBounds_toArray, List.set_cons_zero, List.set_cons_succ, i64_w, i32_w]; rfl
  refine pure_ (i := 3) (N := some 32) (v := ?_) (a' := ?_) #[true, true, true, true, false, false, false, false, false, false, false, false, false, false, false, false, false, false, false, false, false, false, false, false, false, false, false, false, false] rfl rfl (by kernel_rfl) (fun _ _ _ h => h) (Or.inl ⟨by rfl, ?_⟩) ?_ ?_; rotate_left
  · intro w'; go_simp
    with_reducible rfl
  rotate_left
  · simp only [Act.put, List.setIfInBounds_toArray, List.set_cons_zero, List.set_cons_succ, i64_w, i32_w]; rfl
  refine pure_ (i := 4) (N := some 33) (v := ?_) (a' := ?_) #[true, true, true, true, true, false, false, false, false, false, false, false, false, false, false, false, false, false, false, false, false, false, false, false, false, false, false, false, false] rfl rfl (by kernel_rfl) (fun _ _ _ h => h) (Or.inl ⟨by rfl, ?_⟩) ?_ ?_; rotate_left
  · intro w'; go_simp
    with_reducible rfl
  rotate_left
  · simp only [Act.put, List.setIfInBounds_toArray, List.set_cons_zero, List.set_cons_succ, i64_w, i32_w]; rfl
  refine pure_ (i := 5) (N := some 34) (v := ?_) (a' := ?_) #[true, true, true, true, true, true, false, false, false, false, false, false, false, false, false, false, false, false, false, false, false, false, false, false, false, false, false, false, false] rfl rfl (by kernel_rfl) (fun _ _ _ h => h) (Or.inl ⟨by rfl, ?_⟩) ?_ ?_; rotate_left
  · intro w'; go_simp
    with_reducible rfl
  rotate_left
  · simp only [Act.put, List.setIfInBounds_toArray, List.set_cons_zero, List.set_cons_succ, i64_w, i32_w]; rfl
  refine pure_ (i := 6) (N := some 35) (v := ?_) (a' := ?_) #[true, true, true, true, true, true, true, false, false, false, false, false, false, false, false, false, false, false, false, false, false, false, false, false, false, false, false, false, false] rfl rfl (by kernel_rfl) (fun _ _ _ h => h) (Or.inl ⟨by rfl, ?_⟩) ?_ ?_; rotate_left
  · intro w'; go_simp
    with_reducible rfl
  rotate_left
  · simp only [Act.put, List.setIfInBounds_toArray, List.set_cons_zero, List.set_cons_succ, i64_w, i32_w]; rfl
  refine pure_ (i := 7) (N := some 36) (v := ?_) (a' := ?_) #[true, true, true, true, true, true, true, true, false, false, false, false, false, false, false, false, false, false, false, false, false, false, false, false, false, false, false, false, false] rfl rfl (by kernel_rfl) (fun _ _ _ h => h) (Or.inl ⟨by rfl, ?_⟩) ?_ ?_; rotate_left
  · intro w'; go_simp
    with_reducible rfl
  rotate_left
  · simp only [Act.put, List.setIfInBounds_toArray, List.set_cons_zero, List.set_cons_succ, i64_w, i32_w]; rfl
  refine pure_ (i := 8) (N := some 37) (v := ?_) (a' := ?_) #[true, true, true, true, true, true, true, true, true, false, false, false, false, false, false, false, false, false, false, false, false, false, false, false, false, false, false, false, false] rfl rfl (by kernel_rfl) (fun _ _ _ h => h) (Or.inl ⟨by rfl, ?_⟩) ?_ ?_; rotate_left
  · intro w'; go_simp
    with_reducible rfl
  rotate_left
  · simp only [Act.put, List.setIfInBounds_toArray, List.set_cons_zero, List.set_cons_succ, i64_w, i32_w]; rfl
  refine pure_ (i := 9) (N := some 38) (v := ?_) (a' := ?_) #[true, true, true, true, true, true, true, true, true, true, false, false, false, false, false, false, false, false, false, false, false, false, false, false, false, false, false, false, false] rfl rfl (by kernel_rfl) (fun _ _ _ h => h) (Or.inl ⟨by rfl, ?_⟩) ?_ ?_; rotate_left
  · intro w'; go_simp
    with_reducible rfl
  rotate_left
  · simp only [Act.put, List.setIfInBounds_toArray, List.set_cons_zero, List.set_cons_succ, i64_w, i32_w]; rfl
  refine take_ (i := 10) (N := some 39) (v := ?_) (a' := ?_) #[true, true, true, true, true, true, true, true, true, true, true, false, false, false, false, false, false, false, false, false, false, false, false, false, false, false, false, false, false] rfl rfl (by kernel_rfl) (fun _ _ _ h => h) (Or.inl ⟨by rfl, ?_⟩) hHeld ?_ ?_; rotate_left
  · rintro w' ⟨s0, s1, s2, s3, s4, s5, s6, s7, s8, s9, s10, s11, s12, s13, s14, s15, s16, s17, s18, s19, s20, s21, s22⟩; go_simp
    with_reducible rfl
  rotate_left
  · simp only [Act.put, List.setIfInBounds_toArray, List.set_cons_zero, List.set_cons_succ, i64_w, i32_w]; rfl
  refine take_ (i := 11) (N := some 40) (v := ?_) (a' := ?_) #[true, true, true, true, true, true, true, true, true, true, true, true, false, false, false, false, false, false, false, false, false, false, false, false, false, false, false, false, false] rfl rfl (by kernel_rfl) (fun _ _ _ h => h) (Or.inl ⟨by rfl, ?_⟩) hHeld ?_ ?_; rotate_left
  · rintro w' ⟨s0, s1, s2, s3, s4, s5, s6, s7, s8, s9, s10, s11, s12, s13, s14, s15, s16, s17, s18, s19, s20, s21, s22⟩; go_simp
    with_reducible rfl
  rotate_left
  · simp only [Act.put, List.setIfInBounds_toArray, List.set_cons_zero, List.set_cons_succ, i64_w, i32_w]; rfl
  refine pure_ (i := 12) (N := some 41) (v := ?_) (a' := ?_) #[true, true, true, true, true, true, true, true, true, true, true, true, true, false, false, false, false, false, false, false, false, false, false, false, false, false, false, false, false] rfl rfl (by kernel_rfl) (fun _ _ _ h => h) (Or.inl ⟨by rfl, ?_⟩) ?_ ?_; rotate_left
  · intro w'; go_simp
    with_reducible rfl
  rotate_left
  · simp only [Act.put, List.setIfInBounds_toArray, List.set_cons_zero, List.set_cons_succ, i64_w, i32_w]; rfl
  refine pure_ (i := 13) (N := some 42) (v := ?_) (a' := ?_) #[true, true, true, true, true, true, true, true, true, true, true, true, true, true, false, false, false, false, false, false, false, false, false, false, false, false, false, false, false] rfl rfl (by kernel_rfl) (fun _ _ _ h => h) (Or.inl ⟨by rfl, ?_⟩) ?_ ?_; rotate_left
  · intro w'; go_simp
    with_reducible rfl
  rotate_left
  · simp only [Act.put, List.setIfInBounds_toArray, List.set_cons_zero, List.set_cons_succ, i64_w, i32_w]; rfl
  refine pure_ (i := 14) (N := some 43) (v := ?_) (a' := ?_) #[true, true, true, true, true, true, true, true, true, true, true, true, true, true, true, false, false, false, false, false, false, false, false, false, false, false, false, false, false] rfl rfl (by kernel_rfl) (fun _ _ _ h => h) (Or.inl ⟨by rfl, ?_⟩) ?_ ?_; rotate_left
  · intro w'; go_simp
    with_reducible rfl
  rotate_left
  · simp only [Act.put, List.setIfInBounds_toArray, List.set_cons_zero, List.set_cons_succ, i64_w, i32_w]; rfl
  refine pure_ (i := 15) (N := some 44) (v := ?_) (a' := ?_) #[true, true, true, true, true, true, true, true, true, true, true, true, true, true, true, true, false, false, false, false, false, false, false, false, false, false, false, false, false] rfl rfl (by kernel_rfl) (fun _ _ _ h => h) (Or.inl ⟨by rfl, ?_⟩) ?_ ?_; rotate_left
  · intro w'; go_simp
    with_reducible rfl
  rotate_left
  · simp only [Act.put, List.setIfInBounds_toArray, List.set_cons_zero, List.set_cons_succ, i64_w, i32_w]; rfl
  refine pure_ (i := 16) (N := some 45) (v := ?_) (a' := ?_) #[true, true, true, true, true, true, true, true, true, true, true, true, true, true, true, true, true, false, false, false, false, false, false, false, false, false, false, false, false] rfl rfl (by kernel_rfl) (fun _ _ _ h => h) (Or.inl ⟨by rfl, ?_⟩) ?_ ?_; rotate_left
  · intro w'; go_simp
    with_reducible rfl
  rotate_left
  · simp only [Act.put, List.setIfInBounds_toArray, List.set_cons_zero, List.set_cons_succ, i64_w, i32_w]; rfl
  refine pure_ (i := 17) (N := some 46) (v := ?_) (a' := ?_) #[true, true, true, true, true, true, true, true, true, true, true, true, true, true, true, true, true, true, false, false, false, false, false, false, false, false, false, false, false] rfl rfl (by kernel_rfl) (fun _ _ _ h => h) (Or.inl ⟨by rfl, ?_⟩) ?_ ?_; rotate_left
  · intro w'; go_simp
    with_reducible rfl
  rotate_left
  · simp only [Act.put, List.setIfInBounds_toArray, List.set_cons_zero, List.set_cons_succ, i64_w, i32_w]; rfl
  refine take_ (i := 18) (N := some 47) (v := ?_) (a' := ?_) #[true, true, true, true, true, true, true, true, true, true, true, true, true, true, true, true, true, true, true, false, false, false, false, false, false, false, false, false, false] rfl rfl (by kernel_rfl) (fun _ _ _ h => h) (Or.inl ⟨by rfl, ?_⟩) hHeld ?_ ?_; rotate_left
  · rintro w' ⟨s0, s1, s2, s3, s4, s5, s6, s7, s8, s9, s10, s11, s12, s13, s14, s15, s16, s17, s18, s19, s20, s21, s22⟩; go_simp
    with_reducible rfl
  rotate_left
  · simp only [Act.put, List.setIfInBounds_toArray, List.set_cons_zero, List.set_cons_succ, i64_w, i32_w]; rfl
  refine take_ (i := 19) (N := some 48) (v := ?_) (a' := ?_) #[true, true, true, true, true, true, true, true, true, true, true, true, true, true, true, true, true, true, true, true, false, false, false, false, false, false, false, false, false] rfl rfl (by kernel_rfl) (fun _ _ _ h => h) (Or.inl ⟨by rfl, ?_⟩) hHeld ?_ ?_; rotate_left
  · rintro w' ⟨s0, s1, s2, s3, s4, s5, s6, s7, s8, s9, s10, s11, s12, s13, s14, s15, s16, s17, s18, s19, s20, s21, s22⟩; go_simp
    with_reducible rfl
  rotate_left
  · simp only [Act.put, List.setIfInBounds_toArray, List.set_cons_zero, List.set_cons_succ, i64_w, i32_w]; rfl
  refine pure_ (i := 20) (N := some 49) (v := ?_) (a' := ?_) #[true, true, true, true, true, true, true, true, true, true, true, true, true, true, true, true, true, true, true, true, true, false, false, false, false, false, false, false, false] rfl rfl (by kernel_rfl) (fun _ _ _ h => h) (Or.inl ⟨by rfl, ?_⟩) ?_ ?_; rotate_left
  · intro w'; go_simp
    with_reducible rfl
  rotate_left
  · simp only [Act.put, List.setIfInBounds_toArray, List.set_cons_zero, List.set_cons_succ, i64_w, i32_w]; rfl
  refine pure_ (i := 21) (N := some 50) (v := ?_) (a' := ?_) #[true, true, true, true, true, true, true, true, true, true, true, true, true, true, true, true, true, true, true, true, true, true, false, false, false, false, false, false, false] rfl rfl (by kernel_rfl) (fun _ _ _ h => h) (Or.inl ⟨by rfl, ?_⟩) ?_ ?_; rotate_left
  · intro w'; go_simp
    with_reducible rfl
  rotate_left
  · simp only [Act.put, List.setIfInBounds_toArray, List.set_cons_zero, List.set_cons_succ, i64_w, i32_w]; rfl
  refine pure_ (i := 22) (N := some 51) (v := ?_) (a' := ?_) #[true, true, true, true, true, true, true, true, true, true, true, true, true, true, true, true, true, true, true, true, true, true, true, false, false, false, false, false, false] rfl rfl (by kernel_rfl) (fun _ _ _ h => h) (Or.inl ⟨by rfl, ?_⟩) ?_ ?_; rotate_left
  · intro w'; go_simp
    with_reducible rfl
  rotate_left
  · simp only [Act.put, List.setIfInBounds_toArray, List.set_cons_zero, List.set_cons_succ, i64_w, i32_w]; rfl
  refine pure_ (i := 23) (N := some 52) (v := ?_) (a' := ?_) #[true, true, true, true, true, true, true, true, true, true, true, true, true, true, true, true, true, true, true, true, true, true, true, true, false, false, false, false, false] rfl rfl (by kernel_rfl) (fun _ _ _ h => h) (Or.inl ⟨by rfl, ?_⟩) ?_ ?_; rotate_left
  · intro w'; go_simp
    with_reducible rfl
  rotate_left
  · simp only [Act.put, List.setIfInBounds_toArray, List.set_cons_zero, List.set_cons_succ, i64_w, i32_w]; rfl
  refine take_ (i := 24) (N := some 53) (v := ?_) (a' := ?_) #[true, true, true, true, true, true, true, true, true, true, true, true, true, true, true, true, true, true, true, true, true, true, true, true, true, false, false, false, false] rfl rfl (by kernel_rfl) (fun _ _ _ h => h) (Or.inl ⟨by rfl, ?_⟩) hHeld ?_ ?_; rotate_left
  · rintro w' ⟨s0, s1, s2, s3, s4, s5, s6, s7, s8, s9, s10, s11, s12, s13, s14, s15, s16, s17, s18, s19, s20, s21, s22⟩; go_simp
    with_reducible rfl
  rotate_left
  · simp only [Act.put, List.setIfInBounds_toArray, List.set_cons_zero, List.set_cons_succ, i64_w, i32_w]; rfl
  refine one_ (i := 25) (N := some 54) #[true, true, true, true, true, true, true, true, true, true, true, true, true, true, true, true, true, true, true, true, true, true, true, true, true, true, false, false, false] rfl rfl (by kernel_rfl) (by decide) (fun K hK => ?_); refine goes_ Try.func20 (by kernel_rfl) rfl #[.agg #[.int .i64 3, .int .i64 2, .slice AO ([letterA9, letterB9] : List S38).length cO]] (by rfl) rfl rfl (by simp only [List.map_toArray, List.map_cons, List.map_nil]; rfl) ?_
  with_reducible refine (notify_Pending.calls 3 2 AO cO [letterA9, letterB9] [letterA9, letterB9] _ (Kd.R_reads' (Kd.R_drew HRO7.out)).2.2 (Kd.R_reads' HRO7.out).2.1 alive9_3).mono ?_
  rintro e w8 ⟨v8, rfl, hR8, hB8⟩; refine ⟨_, rfl, ?_⟩; obtain ⟨A8, c8, rfl⟩ := Kd.R_slice hR8; have h8 := (below_drew (Below.refl w7.heap.size w7)).trans hB8; refine hK.out _ _ ⟨(blk_cell (blk_below HOx.out h8) 0), (blk_cell (blk_below HOx.out h8) 1), (blk_cell (blk_below HOx.out h8) 2), (blk_cell (blk_below HA7.out h8) 0), (blk_cell (blk_below HA7.out h8) 1), (blk_cell (blk_below HA7.out h8) 2), (blk_cell (blk_below HA7.out h8) 3), (blk_cell (blk_below HBb7.out h8) 0), (blk_cell (blk_below HBb7.out h8) 1), (blk_cell (blk_below HBb7.out h8) 2), (blk_cell (blk_below HBb7.out h8) 3), (cellN_9 (l := [letterA9, letterB9]) (blk_below HL7.out h8) HLp.out 0 _ rfl), (cellN_9 (l := [letterA9, letterB9]) (blk_below HL7.out h8) HLp.out 1 _ rfl), (cellN_9 (l := [letterA9, letterB9]) (blk_below HL7.out h8) HLp.out 2 _ rfl), (cellN_9 (l := [letterA9, letterB9]) (blk_below HL7.out h8) HLp.out 3 _ rfl), (cellN_9 (l := [letterA9, letterB9]) (blk_below HL7.out h8) HLp.out 4 _ rfl), (cellN_9 (l := [letterA9, letterB9]) (blk_below HL7.out h8) HLp.out 5 _ rfl), (cellN_9 (l := [letterA9, letterB9]) (blk_below HL7.out h8) HLp.out 6 _ rfl), (cellN_9 (l := [letterA9, letterB9]) (blk_below HL7.out h8) HLp.out 7 _ rfl), (cellN_9 (l := [letterA9, letterB9]) (blk_below HL7.out h8) HLp.out 8 _ rfl), (cellN_9 (l := [letterA9, letterB9]) (blk_below HL7.out h8) HLp.out 9 _ rfl), (cellN_9 (l := [letterA9, letterB9]) (blk_below HL7.out h8) HLp.out 10 _ rfl), (cellN_9 (l := [letterA9, letterB9]) (blk_below HL7.out h8) HLp.out 11 _ rfl)⟩ (fun hHeld => ?_); clear hK K; refine norm_ (a' := ?_) ?_ ?_; rotate_left
  · show Act.put _ (some 54) _ = _
    simp only [Act.put, List.setIfInBounds_toArray, List.set_cons_zero, List.set_cons_succ, i64_w, i32_w]; rfl
  refine pure_ (i := 26) (N := some 55) (v := ?_) (a' := ?_) #[true, true, true, true, true, true, true, true, true, true, true, true, true, true, true, true, true, true, true, true, true, true, true, true, true, true, true, false, false] rfl rfl (by kernel_rfl) (fun _ _ _ h => h) (Or.inl ⟨by rfl, ?_⟩) ?_ ?_; rotate_left
  · intro w'; go_simp
    with_reducible rfl
  rotate_left
  · simp only [Act.put, List.setIfInBounds_toArray, List.set_cons_zero, List.set_cons_succ, i64_w, i32_w]; rfl
  refine pure_ (i := 27) (N := some 56) (v := ?_) (a' := ?_) #[true, true, true, true, true, true, true, true, true, true, true, true, true, true, true, true, true, true, true, true, true, true, true, true, true, true, true, true, false] rfl rfl (by kernel_rfl) (fun _ _ _ h => h) (Or.inl ⟨by rfl, ?_⟩) ?_ ?_; rotate_left
  · intro w'; go_simp
    with_reducible rfl
  rotate_left
  · simp only [Act.put, List.setIfInBounds_toArray, List.set_cons_zero, List.set_cons_succ, i64_w, i32_w]; rfl
  refine pure_ (i := 28) (N := some 57) (v := ?_) (a' := ?_) #[true, true, true, true, true, true, true, true, true, true, true, true, true, true, true, true, true, true, true, true, true, true, true, true, true, true, true, true, true] rfl rfl (by kernel_rfl) (fun _ _ _ h => h) (Or.inl ⟨by rfl, ?_⟩) ?_ ?_; rotate_left
  · intro w'; go_simp
    with_reducible rfl
  rotate_left
  · simp only [Act.put, List.setIfInBounds_toArray, List.set_cons_zero, List.set_cons_succ, i64_w, i32_w]; rfl
  refine done_ (by kernel_rfl) ?_

  have HXc := Lib.hid (blk_below HX7.out h8); have HOc := Lib.hid (blk_below HOx.out h8); have HAc := Lib.hid (blk_below HA7.out h8); have HBc := Lib.hid (blk_below HBb7.out h8); have HLc := Lib.hid (blk_below HL7.out h8); have HROc := Lib.hid (Kd.R_below HRO7.out h8); have HVg := Lib.hid (Kd.R_V (base' := 0) (Kd.R_mono (Kd.R_types (Kd.R_below HR57.out h8) HXc.out (by decide)) (fun _ hk => hk.2))); have HVe := Lib.hid (Kd.R_V (base' := 0) (Kd.R_mono (Kd.R_types (Kd.R_below HR67.out h8) HXc.out (by decide)) (fun _ hk => hk.2))); have HBEc := Lib.hid (HB7.out.trans (h8.mono HB7.out.size)); clear hR8 hB8 h8 hHeld q1 q2 HX7 HOx HA7 HBb7 HL7 HRO7 HR57 HR67 HB7 HRL7 zO0 zO1 zO2 zA0 zA1 zA2 zA3 zB0 zB1 zB2 zB3 zL0 zL1 zL2 zL3 zL4 zL5 zL6 zL7 zL8 zL9 zL10 zL11
  go_upto_region 7 with (fail)
  have x0 : w8.cell? ⟨w1.heap.size + 1, 0, none⟩ = some (.int .i64 3) := blk_cell HXc.out 0; have x1 : w8.cell? ⟨w1.heap.size + 1, 1, none⟩ = some (.int .i64 1) := blk_cell HXc.out 1; have x2 : w8.cell? ⟨w1.heap.size + 1, 2, none⟩ = some (.slice A5 0 c5) := blk_cell HXc.out 2; have x3 : w8.cell? ⟨w1.heap.size + 1, 3, none⟩ = some (.slice A6 0 c6) := blk_cell HXc.out 3; have l0 : w8.cell? ⟨gL, 6, none⟩ = some (.int .i64 3) := cellN_9 (l := [letterA9, letterB9]) HLc.out HLp.out 6 _ rfl; have l1 : w8.cell? ⟨gL, 7, none⟩ = some (.int .i64 2) := cellN_9 (l := [letterA9, letterB9]) HLc.out HLp.out 7 _ rfl; have l2 : w8.cell? ⟨gL, 8, none⟩ = some (.int .i64 1) := cellN_9 (l := [letterA9, letterB9]) HLc.out HLp.out 8 _ rfl; have l3 : w8.cell? ⟨gL, 9, none⟩ = some (.int .i64 2) := cellN_9 (l := [letterA9, letterB9]) HLc.out HLp.out 9 _ rfl; have l4 : w8.cell? ⟨gL, 10, none⟩ = some (.string ⟨#[114]⟩) := cellN_9 (l := [letterA9, letterB9]) HLc.out HLp.out 10 _ rfl; have l5 : w8.cell? ⟨gL, 11, none⟩ = some (.string ⟨#[98]⟩) := cellN_9 (l := [letterA9, letterB9]) HLc.out HLp.out 11 _ rfl; refine start_ (n := 10) (S := fun w' => w'.cell? ⟨w1.heap.size + 1, 0, none⟩ = some (.int .i64 3) ∧ w'.cell? ⟨w1.heap.size + 1, 1, none⟩ = some (.int .i64 1) ∧ w'.cell? ⟨w1.heap.size + 1, 2, none⟩ = some (.slice A5 0 c5) ∧ w'.cell? ⟨w1.heap.size + 1, 3, none⟩ = some (.slice A6 0 c6) ∧ w'.cell? ⟨gL, 6, none⟩ = some (.int .i64 3) ∧ w'.cell? ⟨gL, 7, none⟩ = some (.int .i64 2) ∧ w'.cell? ⟨gL, 8, none⟩ = some (.int .i64 1) ∧ w'.cell? ⟨gL, 9, none⟩ = some (.int .i64 2) ∧ w'.cell? ⟨gL, 10, none⟩ = some (.string ⟨#[114]⟩) ∧ w'.cell? ⟨gL, 11, none⟩ = some (.string ⟨#[98]⟩)) (ds := [8]) b10_0 (by kernel_rfl) rfl rfl ⟨x0, x1, x2, x3, l0, l1, l2, l3, l4, l5⟩ (fun hHeld => ?_); refine pure_ (i := 1) (N := some 60) (v := ?_) (a' := ?_) b10_1 rfl rfl (by kernel_rfl) (fun _ _ _ h => h) (Or.inl ⟨by rfl, ?_⟩) ?_ ?_; rotate_left
  · intro w'; go_simp
    with_reducible rfl
  rotate_left
  · simp only [Act.put, List.setIfInBounds_toArray, List.set_cons_zero, List.set_cons_succ, i64_w, i32_w]; rfl
  refine pure_ (i := 2) (N := some 61) (v := ?_) (a' := ?_) b10_2 rfl rfl (by kernel_rfl) (fun _ _ _ h => h) (Or.inl ⟨by rfl, ?_⟩) ?_ ?_; rotate_left
  · intro w'; go_simp
    with_reducible rfl
  rotate_left
  · simp only [Act.put, List.setIfInBounds_toArray, List.set_cons_zero, List.set_cons_succ, i64_w, i32_w]; rfl
  refine take_ (i := 0) (N := some 59) (v := ?_) (a' := ?_) b10_3 rfl rfl (by kernel_rfl) (fun _ _ _ h => h) (Or.inl ⟨by rfl, ?_⟩) hHeld ?_ ?_; rotate_left
  · rintro w' ⟨s0, s1, s2, s3, s4, s5, s6, s7, s8, s9⟩; go_simp
    with_reducible rfl
  rotate_left
  · simp only [Act.put, List.setIfInBounds_toArray, List.set_cons_zero, List.set_cons_succ, i64_w, i32_w]; rfl
  refine take_ (i := 3) (N := some 62) (v := ?_) (a' := ?_) b10_4 rfl rfl (by kernel_rfl) (fun _ _ _ h => h) (Or.inl ⟨by rfl, ?_⟩) hHeld ?_ ?_; rotate_left
  · rintro w' ⟨s0, s1, s2, s3, s4, s5, s6, s7, s8, s9⟩; go_simp
    with_reducible rfl
  rotate_left
  · simp only [Act.put, List.setIfInBounds_toArray, List.set_cons_zero, List.set_cons_succ, i64_w, i32_w]; rfl
  refine one_ (i := 4) (N := some 63) b10_5 rfl rfl (by kernel_rfl) (by decide) (fun K hK => ?_); refine goes_ Try.func15 (by kernel_rfl) rfl #[.agg #[.int .i64 3, .int .i64 1, .slice A5 ([] : List S36).length c5, .slice A6 ([] : List S38).length c6], .agg #[.int .i64 3, .int .i64 2, .int .i64 1, .int .i64 2, .string ⟨#[114]⟩, .string ⟨#[98]⟩]] (by rfl) rfl rfl (by simp only [List.map_toArray, List.map_cons, List.map_nil]; rfl) ?_
  with_reducible refine (notify_Receive.calls 3 1 _ A5 c5 [] _ A6 c6 [] 3 2 1 2 ⟨#[114]⟩ ⟨#[98]⟩ 3 1 [] [letterB9] 0 w8.drew (vbase9 (Kd.V_below HVg.out (below_drew (Below.refl _ _)))) (vbase9 (Kd.V_below HVe.out (below_drew (Below.refl _ _)))) alive9_4).mono ?_
  rintro e w9 ⟨vg, ve, rfl, hVg, hVe, hBr⟩; refine ⟨_, rfl, ?_⟩; obtain ⟨Ag7, cg7, rfl⟩ := Kd.V_slice hVg; obtain ⟨Ae7, ce7, rfl⟩ := Kd.V_slice hVe; have hr := (below_drew (Below.refl w8.heap.size w8)).trans hBr; have hXr := blk_below HXc.out hr; have y0 : w9.cell? ⟨w1.heap.size + 1, 0, none⟩ = some (.int .i64 3) := blk_cell hXr 0; have y1 : w9.cell? ⟨w1.heap.size + 1, 1, none⟩ = some (.int .i64 1) := blk_cell hXr 1; have y2 : w9.cell? ⟨w1.heap.size + 1, 2, none⟩ = some (.slice A5 0 c5) := blk_cell hXr 2; have y3 : w9.cell? ⟨w1.heap.size + 1, 3, none⟩ = some (.slice A6 0 c6) := blk_cell hXr 3; have f0 := blk_frozen hXr 0; have f1 := blk_frozen hXr 1; have f2 := blk_frozen hXr 2; have f3 := blk_frozen hXr 3; refine hK.out _ _ ⟨(blk_cell hXr 0), (blk_cell hXr 1), (blk_cell hXr 2), (blk_cell hXr 3), (cellN_9 (l := [letterA9, letterB9]) (blk_below HLc.out hr) HLp.out 6 _ rfl), (cellN_9 (l := [letterA9, letterB9]) (blk_below HLc.out hr) HLp.out 7 _ rfl), (cellN_9 (l := [letterA9, letterB9]) (blk_below HLc.out hr) HLp.out 8 _ rfl), (cellN_9 (l := [letterA9, letterB9]) (blk_below HLc.out hr) HLp.out 9 _ rfl), (cellN_9 (l := [letterA9, letterB9]) (blk_below HLc.out hr) HLp.out 10 _ rfl), (cellN_9 (l := [letterA9, letterB9]) (blk_below HLc.out hr) HLp.out 11 _ rfl)⟩ (fun hHeld => ?_); clear hK K; refine norm_ (a' := ?_) ?_ ?_; rotate_left
  · show Act.put _ (some 63) _ = _
    simp only [Act.put, List.setIfInBounds_toArray, List.set_cons_zero, List.set_cons_succ, i64_w, i32_w]; rfl
  refine pure_ (i := 5) (N := some 58) (v := ?_) (a' := ?_) b10_6 rfl rfl (by kernel_rfl) (fun _ _ _ h => h) (Or.inl ⟨by rfl, ?_⟩) ?_ ?_; rotate_left
  · intro w'; go_simp
    with_reducible rfl
  rotate_left
  · simp only [Act.put, List.setIfInBounds_toArray, List.set_cons_zero, List.set_cons_succ, i64_w, i32_w]; rfl
  refine pure_ (i := 6) (N := some 64) (v := ?_) (a' := ?_) b10_7 rfl rfl (by kernel_rfl) (fun _ _ _ h => h) (Or.inl ⟨by rfl, ?_⟩) ?_ ?_; rotate_left
  · intro w'; go_simp
    with_reducible rfl
  rotate_left
  · simp only [Act.put, List.setIfInBounds_toArray, List.set_cons_zero, List.set_cons_succ, i64_w, i32_w]; rfl
  refine pure_ (i := 7) (N := some 65) (v := ?_) (a' := ?_) b10_8 rfl rfl (by kernel_rfl) (fun _ _ _ h => h) (Or.inl ⟨by rfl, ?_⟩) ?_ ?_; rotate_left
  · intro w'; go_simp
    with_reducible rfl
  rotate_left
  · simp only [Act.put, List.setIfInBounds_toArray, List.set_cons_zero, List.set_cons_succ, i64_w, i32_w]; rfl
  refine last_ (i := 8) (N := none) b10_9 rfl rfl (by kernel_rfl) (by decide) (fun K hK => ?_); refine skip_ (w1 := ?_) (by rfl) rfl ?_ ?_; rotate_left
  · go_simp
    rfl
  refine hK.out _ _ ?_; clear hK K; refine pure_ (i := 9) (N := some 7) (v := ?_) (a' := ?_) b10_10 rfl rfl (by kernel_rfl) (fun _ _ _ h => h) (Or.inl ⟨by rfl, ?_⟩) ?_ ?_; rotate_left
  · intro w'; go_simp
    with_reducible rfl
  rotate_left
  · simp only [Act.put, List.setIfInBounds_toArray, List.set_cons_zero, List.set_cons_succ, i64_w, i32_w]; rfl
  refine done_ (by kernel_rfl) ?_

  have HXn := Lib.hid (show (((((w9).setCell ⟨w1.heap.size + 1, 0, none⟩ (.int .i64 3)).setCell ⟨w1.heap.size + 1, 1, none⟩ (.int .i64 1)).setCell ⟨w1.heap.size + 1, 2, none⟩ (.slice Ag7 0 cg7)).setCell ⟨w1.heap.size + 1, 3, none⟩ (.slice Ae7 1 ce7)).heap[w1.heap.size + 1]? = some (.cells #[.int .i64 3, .int .i64 1, .slice Ag7 0 cg7, .slice Ae7 1 ce7] 34 (0, 0)) from blk_put (blk_put (blk_put (blk_put hXr 0 (.int .i64 3) rfl) 1 (.int .i64 1) rfl) 2 (.slice Ag7 0 cg7) rfl) 3 (.slice Ae7 1 ce7) rfl); have HOn := Lib.hid (show (((((w9).setCell ⟨w1.heap.size + 1, 0, none⟩ (.int .i64 3)).setCell ⟨w1.heap.size + 1, 1, none⟩ (.int .i64 1)).setCell ⟨w1.heap.size + 1, 2, none⟩ (.slice Ag7 0 cg7)).setCell ⟨w1.heap.size + 1, 3, none⟩ (.slice Ae7 1 ce7)).heap[w1.heap.size]? = some (.cells #[.int .i64 3, .int .i64 2, .slice AO 2 cO] 24 (0, 0)) from (by rw [Below.heap_setCell _ _ _ _ (by simp; try omega), Below.heap_setCell _ _ _ _ (by simp; try omega), Below.heap_setCell _ _ _ _ (by simp; try omega), Below.heap_setCell _ _ _ _ (by simp; try omega)]; exact (blk_below HOc.out hr))); have HAn := Lib.hid (show (((((w9).setCell ⟨w1.heap.size + 1, 0, none⟩ (.int .i64 3)).setCell ⟨w1.heap.size + 1, 1, none⟩ (.int .i64 1)).setCell ⟨w1.heap.size + 1, 2, none⟩ (.slice Ag7 0 cg7)).setCell ⟨w1.heap.size + 1, 3, none⟩ (.slice Ae7 1 ce7)).heap[w1.heap.size + 1 + 1]? = some (.cells #[.int .i64 1, .int .i64 1, .string ⟨#[114]⟩, .string ⟨#[97]⟩] 36 (0, 0)) from (by rw [Below.heap_setCell _ _ _ _ (by simp; try omega), Below.heap_setCell _ _ _ _ (by simp; try omega), Below.heap_setCell _ _ _ _ (by simp; try omega), Below.heap_setCell _ _ _ _ (by simp; try omega)]; exact (blk_below HAc.out hr))); have HBn := Lib.hid (show (((((w9).setCell ⟨w1.heap.size + 1, 0, none⟩ (.int .i64 3)).setCell ⟨w1.heap.size + 1, 1, none⟩ (.int .i64 1)).setCell ⟨w1.heap.size + 1, 2, none⟩ (.slice Ag7 0 cg7)).setCell ⟨w1.heap.size + 1, 3, none⟩ (.slice Ae7 1 ce7)).heap[w1.heap.size + 1 + 1 + 1]? = some (.cells #[.int .i64 1, .int .i64 2, .string ⟨#[114]⟩, .string ⟨#[98]⟩] 36 (0, 0)) from (by rw [Below.heap_setCell _ _ _ _ (by simp; try omega), Below.heap_setCell _ _ _ _ (by simp; try omega), Below.heap_setCell _ _ _ _ (by simp; try omega), Below.heap_setCell _ _ _ _ (by simp; try omega)]; exact (blk_below HBc.out hr))); have hLx : gL ≠ w1.heap.size + 1 := fun e => by have h1 := HLc.out; rw [e, HXc.out] at h1; cases h1
  have HLn := Lib.hid (show (((((w9).setCell ⟨w1.heap.size + 1, 0, none⟩ (.int .i64 3)).setCell ⟨w1.heap.size + 1, 1, none⟩ (.int .i64 1)).setCell ⟨w1.heap.size + 1, 2, none⟩ (.slice Ag7 0 cg7)).setCell ⟨w1.heap.size + 1, 3, none⟩ (.slice Ae7 1 ce7)).heap[gL]? = some (.cells cur 38 (0, 0)) from (by rw [Below.heap_setCell _ _ _ _ hLx, Below.heap_setCell _ _ _ _ hLx, Below.heap_setCell _ _ _ _ hLx, Below.heap_setCell _ _ _ _ hLx]; exact (blk_below HLc.out hr))); have HROn := Lib.hid (Kd.R_set (Kd.R_set (Kd.R_set (Kd.R_set (Kd.R_below HROc.out hr) hXr (by decide) 0 (.int .i64 3)) (blk_put hXr 0 (.int .i64 3) rfl) (by decide) 1 (.int .i64 1)) (blk_put (blk_put hXr 0 (.int .i64 3) rfl) 1 (.int .i64 1) rfl) (by decide) 2 (.slice Ag7 0 cg7)) (blk_put (blk_put (blk_put hXr 0 (.int .i64 3) rfl) 1 (.int .i64 1) rfl) 2 (.slice Ag7 0 cg7) rfl) (by decide) 3 (.slice Ae7 1 ce7)); have hXlt : w1.heap.size + 1 < w8.heap.size := blk_lt HXc.out; have HVg := Lib.hid (v4set_9 (X := w1.heap.size + 1) (Kd.V_mono hVg (fun k hk => hk.elim (fun h => h.elim id id) (fun h => by have h2 : w8.heap.size ≤ k := h; omega))) (.int .i64 3) (.int .i64 1) (.slice Ag7 0 cg7) (.slice Ae7 1 ce7)); have HVe := Lib.hid (v4set_9 (X := w1.heap.size + 1) (Kd.V_mono hVe (fun k hk => hk.elim (fun h => h.elim id id) (fun h => by have h2 : w8.heap.size ≤ k := h; omega))) (.int .i64 3) (.int .i64 1) (.slice Ag7 0 cg7) (.slice Ae7 1 ce7)); have HBEn := Lib.hid (((((HBEc.out.trans (hr.mono HBEc.out.size)).setCell (p := ⟨w1.heap.size + 1, 0, none⟩) (Nat.le_succ_of_le HB1le) (.int .i64 3)).setCell (p := ⟨w1.heap.size + 1, 1, none⟩) (Nat.le_succ_of_le HB1le) (.int .i64 1)).setCell (p := ⟨w1.heap.size + 1, 2, none⟩) (Nat.le_succ_of_le HB1le) (.slice Ag7 0 cg7)).setCell (p := ⟨w1.heap.size + 1, 3, none⟩) (Nat.le_succ_of_le HB1le) (.slice Ae7 1 ce7)); clear hXlt hr hXr y0 y1 y2 y3 f0 f1 f2 f3 x0 x1 x2 x3 l0 l1 l2 l3 l4 l5 hLx hVg hVe hBr hHeld HXc HOc HAc HBc HLc HROc HBEc
  generalize ((((w9).setCell ⟨w1.heap.size + 1, 0, none⟩ (.int .i64 3)).setCell ⟨w1.heap.size + 1, 1, none⟩ (.int .i64 1)).setCell ⟨w1.heap.size + 1, 2, none⟩ (.slice Ag7 0 cg7)).setCell ⟨w1.heap.size + 1, 3, none⟩ (.slice Ae7 1 ce7) = w10 at HXn HOn HAn HBn HLn HROn HVg HVe HBEn ⊢
  have HXc := HXn; have HOc := HOn; have HAc := HAn; have HBc := HBn; have HLc := HLn; have HROc := HROn; have HBEc := HBEn; clear HXn HOn HAn HBn HLn HROn HBEn; have cX0 : w10.cell? ⟨w1.heap.size + 1, 0, none⟩ = some (.int .i64 3) := blk_cell HXc.out 0; have cX1 : w10.cell? ⟨w1.heap.size + 1, 1, none⟩ = some (.int .i64 1) := blk_cell HXc.out 1; have cX2 : w10.cell? ⟨w1.heap.size + 1, 2, none⟩ = some (.slice Ag7 0 cg7) := blk_cell HXc.out 2; have cX3 : w10.cell? ⟨w1.heap.size + 1, 3, none⟩ = some (.slice Ae7 1 ce7) := blk_cell HXc.out 3; have cO0 : w10.cell? ⟨w1.heap.size, 0, none⟩ = some (.int .i64 3) := blk_cell HOc.out 0; have cO1 : w10.cell? ⟨w1.heap.size, 1, none⟩ = some (.int .i64 2) := blk_cell HOc.out 1; have cO2 : w10.cell? ⟨w1.heap.size, 2, none⟩ = some (.slice AO 2 cO) := blk_cell HOc.out 2
  go_wp2_with fail
  refine (notify_Right.calls 40 3 2 AO cO [letterA9, letterB9] 3 1 Ag7 cg7 [] Ae7 ce7 [letterB9] true w10 (Kd.R_reads' HROc.out).2.2 (Kd.R_reads' HROc.out).2.1 (Kd.V_reads' HVg.out).2.2 (Kd.V_reads' HVg.out).2.1 (Kd.V_reads' HVe.out).2.2 (Kd.V_reads' HVe.out).2.1 alive9_5).mono ?_; rintro e w11 ⟨rfl, hB11⟩; have HXn := Lib.hid (blk_below HXc.out hB11); have HOn := Lib.hid (blk_below HOc.out hB11); have HAn := Lib.hid (blk_below HAc.out hB11); have HBn := Lib.hid (blk_below HBc.out hB11); have HLn := Lib.hid (blk_below HLc.out hB11); have HROn := Lib.hid (Kd.R_below HROc.out hB11); have HVgn := Lib.hid (Kd.V_below HVg.out hB11); have HVen := Lib.hid (Kd.V_below HVe.out hB11); have HBEn := Lib.hid (HBEc.out.trans (hB11.mono HBEc.out.size)); clear HXc HOc HAc HBc HLc HROc HVg HVe HBEc; have HXc := HXn; have HOc := HOn; have HAc := HAn; have HBc := HBn; have HLc := HLn; have HROc := HROn; have HVg := HVgn; have HVe := HVen; have HBEc := HBEn; clear HXn HOn HAn HBn HLn HROn HVgn HVen HBEn cX0 cX1 cX2 cX3 cO0 cO1 cO2 hB11
  go_upto_region 10 with (fail)
  have x0 : w11.cell? ⟨w1.heap.size + 1, 0, none⟩ = some (.int .i64 3) := blk_cell HXc.out 0; have x1 : w11.cell? ⟨w1.heap.size + 1, 1, none⟩ = some (.int .i64 1) := blk_cell HXc.out 1; have x2 : w11.cell? ⟨w1.heap.size + 1, 2, none⟩ = some (.slice Ag7 0 cg7) := blk_cell HXc.out 2; have x3 : w11.cell? ⟨w1.heap.size + 1, 3, none⟩ = some (.slice Ae7 1 ce7) := blk_cell HXc.out 3; have l0 : w11.cell? ⟨gL, 0, none⟩ = some (.int .i64 3) := cellN_9 (l := [letterA9, letterB9]) HLc.out HLp.out 0 _ rfl; have l1 : w11.cell? ⟨gL, 1, none⟩ = some (.int .i64 1) := cellN_9 (l := [letterA9, letterB9]) HLc.out HLp.out 1 _ rfl; have l2 : w11.cell? ⟨gL, 2, none⟩ = some (.int .i64 1) := cellN_9 (l := [letterA9, letterB9]) HLc.out HLp.out 2 _ rfl; have l3 : w11.cell? ⟨gL, 3, none⟩ = some (.int .i64 1) := cellN_9 (l := [letterA9, letterB9]) HLc.out HLp.out 3 _ rfl; have l4 : w11.cell? ⟨gL, 4, none⟩ = some (.string ⟨#[114]⟩) := cellN_9 (l := [letterA9, letterB9]) HLc.out HLp.out 4 _ rfl; have l5 : w11.cell? ⟨gL, 5, none⟩ = some (.string ⟨#[97]⟩) := cellN_9 (l := [letterA9, letterB9]) HLc.out HLp.out 5 _ rfl; refine start_ (n := 10) (S := fun w' => w'.cell? ⟨w1.heap.size + 1, 0, none⟩ = some (.int .i64 3) ∧ w'.cell? ⟨w1.heap.size + 1, 1, none⟩ = some (.int .i64 1) ∧ w'.cell? ⟨w1.heap.size + 1, 2, none⟩ = some (.slice Ag7 0 cg7) ∧ w'.cell? ⟨w1.heap.size + 1, 3, none⟩ = some (.slice Ae7 1 ce7) ∧ w'.cell? ⟨gL, 0, none⟩ = some (.int .i64 3) ∧ w'.cell? ⟨gL, 1, none⟩ = some (.int .i64 1) ∧ w'.cell? ⟨gL, 2, none⟩ = some (.int .i64 1) ∧ w'.cell? ⟨gL, 3, none⟩ = some (.int .i64 1) ∧ w'.cell? ⟨gL, 4, none⟩ = some (.string ⟨#[114]⟩) ∧ w'.cell? ⟨gL, 5, none⟩ = some (.string ⟨#[97]⟩)) (ds := [8]) b10_0 (by kernel_rfl) rfl rfl ⟨x0, x1, x2, x3, l0, l1, l2, l3, l4, l5⟩ (fun hHeld => ?_); refine pure_ (i := 1) (N := some 88) (v := ?_) (a' := ?_) b10_1 rfl rfl (by kernel_rfl) (fun _ _ _ h => h) (Or.inl ⟨by rfl, ?_⟩) ?_ ?_; rotate_left
  · intro w'; go_simp
    with_reducible rfl
  rotate_left
  · simp only [Act.put, List.setIfInBounds_toArray, List.set_cons_zero, List.set_cons_succ, i64_w, i32_w]; rfl
  refine pure_ (i := 2) (N := some 89) (v := ?_) (a' := ?_) b10_2 rfl rfl (by kernel_rfl) (fun _ _ _ h => h) (Or.inl ⟨by rfl, ?_⟩) ?_ ?_; rotate_left
  · intro w'; go_simp
    with_reducible rfl
  rotate_left
  · simp only [Act.put, List.setIfInBounds_toArray, List.set_cons_zero, List.set_cons_succ, i64_w, i32_w]; rfl
  refine take_ (i := 0) (N := some 87) (v := ?_) (a' := ?_) b10_3 rfl rfl (by kernel_rfl) (fun _ _ _ h => h) (Or.inl ⟨by rfl, ?_⟩) hHeld ?_ ?_; rotate_left
  · rintro w' ⟨s0, s1, s2, s3, s4, s5, s6, s7, s8, s9⟩; go_simp
    with_reducible rfl
  rotate_left
  · simp only [Act.put, List.setIfInBounds_toArray, List.set_cons_zero, List.set_cons_succ, i64_w, i32_w]; rfl
  refine take_ (i := 3) (N := some 90) (v := ?_) (a' := ?_) b10_4 rfl rfl (by kernel_rfl) (fun _ _ _ h => h) (Or.inl ⟨by rfl, ?_⟩) hHeld ?_ ?_; rotate_left
  · rintro w' ⟨s0, s1, s2, s3, s4, s5, s6, s7, s8, s9⟩; go_simp
    with_reducible rfl
  rotate_left
  · simp only [Act.put, List.setIfInBounds_toArray, List.set_cons_zero, List.set_cons_succ, i64_w, i32_w]; rfl
  refine one_ (i := 4) (N := some 91) b10_5 rfl rfl (by kernel_rfl) (by decide) (fun K hK => ?_); refine goes_ Try.func15 (by kernel_rfl) rfl #[.agg #[.int .i64 3, .int .i64 1, .slice Ag7 ([] : List S36).length cg7, .slice Ae7 ([letterB9] : List S38).length ce7], .agg #[.int .i64 3, .int .i64 1, .int .i64 1, .int .i64 1, .string ⟨#[114]⟩, .string ⟨#[97]⟩]] (by rfl) rfl rfl (by simp only [List.map_toArray, List.map_cons, List.map_nil]; rfl) ?_
  with_reducible refine (notify_Receive.calls 3 1 _ Ag7 cg7 [] _ Ae7 ce7 [letterB9] 3 1 1 1 ⟨#[114]⟩ ⟨#[97]⟩ 3 3 [alertA9, alertB9] [] 2 w11.drew (vbase9 (Kd.V_below HVg.out (below_drew (Below.refl _ _)))) (vbase9 (Kd.V_below HVe.out (below_drew (Below.refl _ _)))) alive9_6).mono ?_
  rintro e w12 ⟨vg, ve, rfl, hVg, hVe, hBr⟩; refine ⟨_, rfl, ?_⟩; obtain ⟨Ag10, cg10, rfl⟩ := Kd.V_slice hVg; obtain ⟨Ae10, ce10, rfl⟩ := Kd.V_slice hVe; have hr := (below_drew (Below.refl w11.heap.size w11)).trans hBr; have hXr := blk_below HXc.out hr; have y0 : w12.cell? ⟨w1.heap.size + 1, 0, none⟩ = some (.int .i64 3) := blk_cell hXr 0; have y1 : w12.cell? ⟨w1.heap.size + 1, 1, none⟩ = some (.int .i64 1) := blk_cell hXr 1; have y2 : w12.cell? ⟨w1.heap.size + 1, 2, none⟩ = some (.slice Ag7 0 cg7) := blk_cell hXr 2; have y3 : w12.cell? ⟨w1.heap.size + 1, 3, none⟩ = some (.slice Ae7 1 ce7) := blk_cell hXr 3; have f0 := blk_frozen hXr 0; have f1 := blk_frozen hXr 1; have f2 := blk_frozen hXr 2; have f3 := blk_frozen hXr 3; refine hK.out _ _ ⟨(blk_cell hXr 0), (blk_cell hXr 1), (blk_cell hXr 2), (blk_cell hXr 3), (cellN_9 (l := [letterA9, letterB9]) (blk_below HLc.out hr) HLp.out 0 _ rfl), (cellN_9 (l := [letterA9, letterB9]) (blk_below HLc.out hr) HLp.out 1 _ rfl), (cellN_9 (l := [letterA9, letterB9]) (blk_below HLc.out hr) HLp.out 2 _ rfl), (cellN_9 (l := [letterA9, letterB9]) (blk_below HLc.out hr) HLp.out 3 _ rfl), (cellN_9 (l := [letterA9, letterB9]) (blk_below HLc.out hr) HLp.out 4 _ rfl), (cellN_9 (l := [letterA9, letterB9]) (blk_below HLc.out hr) HLp.out 5 _ rfl)⟩ (fun hHeld => ?_); clear hK K; refine norm_ (a' := ?_) ?_ ?_; rotate_left
  · show Act.put _ (some 91) _ = _
    simp only [Act.put, List.setIfInBounds_toArray, List.set_cons_zero, List.set_cons_succ, i64_w, i32_w]; rfl
  refine pure_ (i := 5) (N := some 86) (v := ?_) (a' := ?_) b10_6 rfl rfl (by kernel_rfl) (fun _ _ _ h => h) (Or.inl ⟨by rfl, ?_⟩) ?_ ?_; rotate_left
  · intro w'; go_simp
    with_reducible rfl
  rotate_left
  · simp only [Act.put, List.setIfInBounds_toArray, List.set_cons_zero, List.set_cons_succ, i64_w, i32_w]; rfl
  refine pure_ (i := 6) (N := some 92) (v := ?_) (a' := ?_) b10_7 rfl rfl (by kernel_rfl) (fun _ _ _ h => h) (Or.inl ⟨by rfl, ?_⟩) ?_ ?_; rotate_left
  · intro w'; go_simp
    with_reducible rfl
  rotate_left
  · simp only [Act.put, List.setIfInBounds_toArray, List.set_cons_zero, List.set_cons_succ, i64_w, i32_w]; rfl
  refine pure_ (i := 7) (N := some 93) (v := ?_) (a' := ?_) b10_8 rfl rfl (by kernel_rfl) (fun _ _ _ h => h) (Or.inl ⟨by rfl, ?_⟩) ?_ ?_; rotate_left
  · intro w'; go_simp
    with_reducible rfl
  rotate_left
  · simp only [Act.put, List.setIfInBounds_toArray, List.set_cons_zero, List.set_cons_succ, i64_w, i32_w]; rfl
  refine last_ (i := 8) (N := none) b10_9 rfl rfl (by kernel_rfl) (by decide) (fun K hK => ?_); refine skip_ (w1 := ?_) (by rfl) rfl ?_ ?_; rotate_left
  · go_simp
    rfl
  refine hK.out _ _ ?_; clear hK K; refine pure_ (i := 9) (N := some 7) (v := ?_) (a' := ?_) b10_10 rfl rfl (by kernel_rfl) (fun _ _ _ h => h) (Or.inl ⟨by rfl, ?_⟩) ?_ ?_; rotate_left
  · intro w'; go_simp
    with_reducible rfl
  rotate_left
  · simp only [Act.put, List.setIfInBounds_toArray, List.set_cons_zero, List.set_cons_succ, i64_w, i32_w]; rfl
  refine done_ (by kernel_rfl) ?_

  have HXn := Lib.hid (show (((((w12).setCell ⟨w1.heap.size + 1, 0, none⟩ (.int .i64 3)).setCell ⟨w1.heap.size + 1, 1, none⟩ (.int .i64 3)).setCell ⟨w1.heap.size + 1, 2, none⟩ (.slice Ag10 2 cg10)).setCell ⟨w1.heap.size + 1, 3, none⟩ (.slice Ae10 0 ce10)).heap[w1.heap.size + 1]? = some (.cells #[.int .i64 3, .int .i64 3, .slice Ag10 2 cg10, .slice Ae10 0 ce10] 34 (0, 0)) from blk_put (blk_put (blk_put (blk_put hXr 0 (.int .i64 3) rfl) 1 (.int .i64 3) rfl) 2 (.slice Ag10 2 cg10) rfl) 3 (.slice Ae10 0 ce10) rfl); have HOn := Lib.hid (show (((((w12).setCell ⟨w1.heap.size + 1, 0, none⟩ (.int .i64 3)).setCell ⟨w1.heap.size + 1, 1, none⟩ (.int .i64 3)).setCell ⟨w1.heap.size + 1, 2, none⟩ (.slice Ag10 2 cg10)).setCell ⟨w1.heap.size + 1, 3, none⟩ (.slice Ae10 0 ce10)).heap[w1.heap.size]? = some (.cells #[.int .i64 3, .int .i64 2, .slice AO 2 cO] 24 (0, 0)) from (by rw [Below.heap_setCell _ _ _ _ (by simp; try omega), Below.heap_setCell _ _ _ _ (by simp; try omega), Below.heap_setCell _ _ _ _ (by simp; try omega), Below.heap_setCell _ _ _ _ (by simp; try omega)]; exact (blk_below HOc.out hr))); have HAn := Lib.hid (show (((((w12).setCell ⟨w1.heap.size + 1, 0, none⟩ (.int .i64 3)).setCell ⟨w1.heap.size + 1, 1, none⟩ (.int .i64 3)).setCell ⟨w1.heap.size + 1, 2, none⟩ (.slice Ag10 2 cg10)).setCell ⟨w1.heap.size + 1, 3, none⟩ (.slice Ae10 0 ce10)).heap[w1.heap.size + 1 + 1]? = some (.cells #[.int .i64 1, .int .i64 1, .string ⟨#[114]⟩, .string ⟨#[97]⟩] 36 (0, 0)) from (by rw [Below.heap_setCell _ _ _ _ (by simp; try omega), Below.heap_setCell _ _ _ _ (by simp; try omega), Below.heap_setCell _ _ _ _ (by simp; try omega), Below.heap_setCell _ _ _ _ (by simp; try omega)]; exact (blk_below HAc.out hr))); have HBn := Lib.hid (show (((((w12).setCell ⟨w1.heap.size + 1, 0, none⟩ (.int .i64 3)).setCell ⟨w1.heap.size + 1, 1, none⟩ (.int .i64 3)).setCell ⟨w1.heap.size + 1, 2, none⟩ (.slice Ag10 2 cg10)).setCell ⟨w1.heap.size + 1, 3, none⟩ (.slice Ae10 0 ce10)).heap[w1.heap.size + 1 + 1 + 1]? = some (.cells #[.int .i64 1, .int .i64 2, .string ⟨#[114]⟩, .string ⟨#[98]⟩] 36 (0, 0)) from (by rw [Below.heap_setCell _ _ _ _ (by simp; try omega), Below.heap_setCell _ _ _ _ (by simp; try omega), Below.heap_setCell _ _ _ _ (by simp; try omega), Below.heap_setCell _ _ _ _ (by simp; try omega)]; exact (blk_below HBc.out hr))); have hLx : gL ≠ w1.heap.size + 1 := fun e => by have h1 := HLc.out; rw [e, HXc.out] at h1; cases h1
  have HLn := Lib.hid (show (((((w12).setCell ⟨w1.heap.size + 1, 0, none⟩ (.int .i64 3)).setCell ⟨w1.heap.size + 1, 1, none⟩ (.int .i64 3)).setCell ⟨w1.heap.size + 1, 2, none⟩ (.slice Ag10 2 cg10)).setCell ⟨w1.heap.size + 1, 3, none⟩ (.slice Ae10 0 ce10)).heap[gL]? = some (.cells cur 38 (0, 0)) from (by rw [Below.heap_setCell _ _ _ _ hLx, Below.heap_setCell _ _ _ _ hLx, Below.heap_setCell _ _ _ _ hLx, Below.heap_setCell _ _ _ _ hLx]; exact (blk_below HLc.out hr))); have HROn := Lib.hid (Kd.R_set (Kd.R_set (Kd.R_set (Kd.R_set (Kd.R_below HROc.out hr) hXr (by decide) 0 (.int .i64 3)) (blk_put hXr 0 (.int .i64 3) rfl) (by decide) 1 (.int .i64 3)) (blk_put (blk_put hXr 0 (.int .i64 3) rfl) 1 (.int .i64 3) rfl) (by decide) 2 (.slice Ag10 2 cg10)) (blk_put (blk_put (blk_put hXr 0 (.int .i64 3) rfl) 1 (.int .i64 3) rfl) 2 (.slice Ag10 2 cg10) rfl) (by decide) 3 (.slice Ae10 0 ce10)); have hXlt : w1.heap.size + 1 < w11.heap.size := blk_lt HXc.out; have HVg := Lib.hid (v4set_9 (X := w1.heap.size + 1) (Kd.V_mono hVg (fun k hk => hk.elim (fun h => h.elim id id) (fun h => by have h2 : w11.heap.size ≤ k := h; omega))) (.int .i64 3) (.int .i64 3) (.slice Ag10 2 cg10) (.slice Ae10 0 ce10)); have HVe := Lib.hid (v4set_9 (X := w1.heap.size + 1) (Kd.V_mono hVe (fun k hk => hk.elim (fun h => h.elim id id) (fun h => by have h2 : w11.heap.size ≤ k := h; omega))) (.int .i64 3) (.int .i64 3) (.slice Ag10 2 cg10) (.slice Ae10 0 ce10)); have HBEn := Lib.hid (((((HBEc.out.trans (hr.mono HBEc.out.size)).setCell (p := ⟨w1.heap.size + 1, 0, none⟩) (Nat.le_succ_of_le HB1le) (.int .i64 3)).setCell (p := ⟨w1.heap.size + 1, 1, none⟩) (Nat.le_succ_of_le HB1le) (.int .i64 3)).setCell (p := ⟨w1.heap.size + 1, 2, none⟩) (Nat.le_succ_of_le HB1le) (.slice Ag10 2 cg10)).setCell (p := ⟨w1.heap.size + 1, 3, none⟩) (Nat.le_succ_of_le HB1le) (.slice Ae10 0 ce10)); clear hXlt hr hXr y0 y1 y2 y3 f0 f1 f2 f3 x0 x1 x2 x3 l0 l1 l2 l3 l4 l5 hLx hVg hVe hBr hHeld HXc HOc HAc HBc HLc HROc HBEc
  generalize ((((w12).setCell ⟨w1.heap.size + 1, 0, none⟩ (.int .i64 3)).setCell ⟨w1.heap.size + 1, 1, none⟩ (.int .i64 3)).setCell ⟨w1.heap.size + 1, 2, none⟩ (.slice Ag10 2 cg10)).setCell ⟨w1.heap.size + 1, 3, none⟩ (.slice Ae10 0 ce10) = w13 at HXn HOn HAn HBn HLn HROn HVg HVe HBEn ⊢
  have HXc := HXn; have HOc := HOn; have HAc := HAn; have HBc := HBn; have HLc := HLn; have HROc := HROn; have HBEc := HBEn; clear HXn HOn HAn HBn HLn HROn HBEn
  go_upto_region 11 with (fail)
  have cX0 : w13.cell? ⟨w1.heap.size + 1, 0, none⟩ = some (.int .i64 3) := blk_cell HXc.out 0; have cX1 : w13.cell? ⟨w1.heap.size + 1, 1, none⟩ = some (.int .i64 3) := blk_cell HXc.out 1; have cX2 : w13.cell? ⟨w1.heap.size + 1, 2, none⟩ = some (.slice Ag10 2 cg10) := blk_cell HXc.out 2; have cX3 : w13.cell? ⟨w1.heap.size + 1, 3, none⟩ = some (.slice Ae10 0 ce10) := blk_cell HXc.out 3; have cO0 : w13.cell? ⟨w1.heap.size, 0, none⟩ = some (.int .i64 3) := blk_cell HOc.out 0; have cO1 : w13.cell? ⟨w1.heap.size, 1, none⟩ = some (.int .i64 2) := blk_cell HOc.out 1; have cO2 : w13.cell? ⟨w1.heap.size, 2, none⟩ = some (.slice AO 2 cO) := blk_cell HOc.out 2; have cA0 : w13.cell? ⟨w1.heap.size + 1 + 1, 0, none⟩ = some (.int .i64 1) := blk_cell HAc.out 0; have cA1 : w13.cell? ⟨w1.heap.size + 1 + 1, 1, none⟩ = some (.int .i64 1) := blk_cell HAc.out 1; have cA2 : w13.cell? ⟨w1.heap.size + 1 + 1, 2, none⟩ = some (.string ⟨#[114]⟩) := blk_cell HAc.out 2; have cA3 : w13.cell? ⟨w1.heap.size + 1 + 1, 3, none⟩ = some (.string ⟨#[97]⟩) := blk_cell HAc.out 3; have cB0 : w13.cell? ⟨w1.heap.size + 1 + 1 + 1, 0, none⟩ = some (.int .i64 1) := blk_cell HBc.out 0; have cB1 : w13.cell? ⟨w1.heap.size + 1 + 1 + 1, 1, none⟩ = some (.int .i64 2) := blk_cell HBc.out 1; have cB2 : w13.cell? ⟨w1.heap.size + 1 + 1 + 1, 2, none⟩ = some (.string ⟨#[114]⟩) := blk_cell HBc.out 2; have cB3 : w13.cell? ⟨w1.heap.size + 1 + 1 + 1, 3, none⟩ = some (.string ⟨#[98]⟩) := blk_cell HBc.out 3; have hn14 := World.alloc_heap_new w13 (.cells #[.int .i64 1, .int .i64 1, .string ⟨#[114]⟩, .string ⟨#[97]⟩, .int .i64 1, .int .i64 2, .string ⟨#[114]⟩, .string ⟨#[98]⟩] 36); have hb14 : Below w13.heap.size w13 (w13.alloc (.cells #[.int .i64 1, .int .i64 1, .string ⟨#[114]⟩, .string ⟨#[97]⟩, .int .i64 1, .int .i64 2, .string ⟨#[114]⟩, .string ⟨#[98]⟩] 36)) := (Below.refl _ _).alloc (Nat.le_refl _) _; have HN14 := Lib.hid hn14; have HB14 := Lib.hid hb14; clear hn14 hb14
  go_wp2_with fail
  refine (codesearchref49_Alerts.calls 40 Ag10 cg10 [alertA9, alertB9] (some ⟨w13.heap.size, 0, none⟩) 2 [alertA9, alertB9] true _ (Kd.C_below (Kd.V_reads' HVg.out).2.2 HB14.out) (Kd.V_reads' HVg.out).2.1 (two36_9 (x := alertA9) (y := alertB9) HN14.out) (Nat.le_refl _) alive9_7).mono ?_; rintro e w15 ⟨rfl, hD15⟩; have h15 := HB14.out.trans ((Drawn0.below hD15).mono HB14.out.size); have HXn := Lib.hid (blk_below HXc.out h15); have HOn := Lib.hid (blk_below HOc.out h15); have HAn := Lib.hid (blk_below HAc.out h15); have HBn := Lib.hid (blk_below HBc.out h15); have HLn := Lib.hid (blk_below HLc.out h15); have HROn := Lib.hid (Kd.R_below HROc.out h15); have HVgn := Lib.hid (Kd.V_below HVg.out h15); have HVen := Lib.hid (Kd.V_below HVe.out h15); have HBEn := Lib.hid (HBEc.out.trans (h15.mono HBEc.out.size)); clear HXc HOc HAc HBc HLc HROc HVg HVe HBEc; have HXc := HXn; have HOc := HOn; have HAc := HAn; have HBc := HBn; have HLc := HLn; have HROc := HROn; have HVg := HVgn; have HVe := HVen; have HBEc := HBEn; clear HXn HOn HAn HBn HLn HROn HVgn HVen HBEn cX0 cX1 cX2 cX3 cO0 cO1 cO2 cA0 cA1 cA2 cA3 cB0 cB1 cB2 cB3 hD15 h15 HN14 HB14; have cX0 : w15.cell? ⟨w1.heap.size + 1, 0, none⟩ = some (.int .i64 3) := blk_cell HXc.out 0; have cX1 : w15.cell? ⟨w1.heap.size + 1, 1, none⟩ = some (.int .i64 3) := blk_cell HXc.out 1; have cX2 : w15.cell? ⟨w1.heap.size + 1, 2, none⟩ = some (.slice Ag10 2 cg10) := blk_cell HXc.out 2; have cX3 : w15.cell? ⟨w1.heap.size + 1, 3, none⟩ = some (.slice Ae10 0 ce10) := blk_cell HXc.out 3; have cO0 : w15.cell? ⟨w1.heap.size, 0, none⟩ = some (.int .i64 3) := blk_cell HOc.out 0; have cO1 : w15.cell? ⟨w1.heap.size, 1, none⟩ = some (.int .i64 2) := blk_cell HOc.out 1; have cO2 : w15.cell? ⟨w1.heap.size, 2, none⟩ = some (.slice AO 2 cO) := blk_cell HOc.out 2
  go_wp2_with fail
  refine (notify_Ack.calls 40 3 2 AO cO [letterA9, letterB9] 2 3 2 [] w15 (Kd.R_reads' HROc.out).2.2 (Kd.R_reads' HROc.out).2.1 alive9_8).mono ?_; rintro e w16 ⟨v16, rfl, hR16, hB16⟩; obtain ⟨A16, c16, rfl⟩ := Kd.R_slice hR16; have HXn := Lib.hid (blk_below HXc.out hB16); have HOn := Lib.hid (blk_below HOc.out hB16); have HAn := Lib.hid (blk_below HAc.out hB16); have HBn := Lib.hid (blk_below HBc.out hB16); have HLn := Lib.hid (blk_below HLc.out hB16); have HROn := Lib.hid (Kd.R_below HROc.out hB16); have HVgn := Lib.hid (Kd.V_below HVg.out hB16); have HVen := Lib.hid (Kd.V_below HVe.out hB16); have HBEn := Lib.hid (HBEc.out.trans (hB16.mono HBEc.out.size)); clear HXc HOc HAc HBc HLc HROc HVg HVe HBEc; have HXc := HXn; have HOc := HOn; have HAc := HAn; have HBc := HBn; have HLc := HLn; have HROc := HROn; have HVg := HVgn; have HVe := HVen; have HBEc := HBEn; clear HXn HOn HAn HBn HLn HROn HVgn HVen HBEn cX0 cX1 cX2 cX3 cO0 cO1 cO2; have HR16 := Lib.hid (Kd.R_reads' hR16); clear hR16 hB16
  go_wp2_with fail
  refine (notify_Pending.calls 3 2 A16 c16 [] [] w16 HR16.out.2.2 HR16.out.2.1 alive9_9).mono ?_; rintro e w17 ⟨v17, rfl, hR17, hB17⟩; obtain ⟨A17, c17, rfl⟩ := Kd.R_slice hR17; have HXn := Lib.hid (blk_below HXc.out hB17); have HOn := Lib.hid (blk_below HOc.out hB17); have HAn := Lib.hid (blk_below HAc.out hB17); have HBn := Lib.hid (blk_below HBc.out hB17); have HLn := Lib.hid (blk_below HLc.out hB17); have HROn := Lib.hid (Kd.R_below HROc.out hB17); have HVgn := Lib.hid (Kd.V_below HVg.out hB17); have HVen := Lib.hid (Kd.V_below HVe.out hB17); have HBEn := Lib.hid (HBEc.out.trans (hB17.mono HBEc.out.size)); clear HXc HOc HAc HBc HLc HROc HVg HVe HBEc; have HXc := HXn; have HOc := HOn; have HAc := HAn; have HBc := HBn; have HLc := HLn; have HROc := HROn; have HVg := HVgn; have HVe := HVen; have HBEc := HBEn; clear HXn HOn HAn HBn HLn HROn HVgn HVen HBEn hR17 hB17 HR16
  go_upto_region 13 with (fail)
  have cA0 : w17.cell? ⟨w1.heap.size + 1 + 1, 0, none⟩ = some (.int .i64 1) := blk_cell HAc.out 0; have cA1 : w17.cell? ⟨w1.heap.size + 1 + 1, 1, none⟩ = some (.int .i64 1) := blk_cell HAc.out 1; have cA2 : w17.cell? ⟨w1.heap.size + 1 + 1, 2, none⟩ = some (.string ⟨#[114]⟩) := blk_cell HAc.out 2; have cA3 : w17.cell? ⟨w1.heap.size + 1 + 1, 3, none⟩ = some (.string ⟨#[97]⟩) := blk_cell HAc.out 3; have hn18 := World.alloc_heap_new w17 (.cells #[.int .i64 1, .int .i64 1, .string ⟨#[114]⟩, .string ⟨#[97]⟩] 36); have hb18 : Below w17.heap.size w17 (w17.alloc (.cells #[.int .i64 1, .int .i64 1, .string ⟨#[114]⟩, .string ⟨#[97]⟩] 36)) := (Below.refl _ _).alloc (Nat.le_refl _) _; have HN18 := Lib.hid hn18; have HB18 := Lib.hid hb18; clear hn18 hb18
  go_wp2_with fail
  refine (notify_Post.calls 40 0 9999 none 0 [] (some ⟨w17.heap.size, 0, none⟩) 1 [alertA9] 0 0 [] [] 2 _ ⟨rfl, Nat.zero_le _, fun h => absurd h (Nat.lt_irrefl 0)⟩ (Nat.le_refl _) (one36_9 (x := alertA9) HN18.out) (Nat.le_refl _) alive9_a).mono ?_; rintro e w19 ⟨v19, u19, rfl, hR19, hS19, hB19⟩; obtain ⟨A19, c19, rfl⟩ := Kd.R_slice hR19; obtain ⟨D19, d19, rfl⟩ := Kd.R_slice hS19; have h19 := HB18.out.trans (hB19.mono HB18.out.size); have HXn := Lib.hid (blk_below HXc.out h19); have HOn := Lib.hid (blk_below HOc.out h19); have HAn := Lib.hid (blk_below HAc.out h19); have HBn := Lib.hid (blk_below HBc.out h19); have HLn := Lib.hid (blk_below HLc.out h19); have HROn := Lib.hid (Kd.R_below HROc.out h19); have HVgn := Lib.hid (Kd.V_below HVg.out h19); have HVen := Lib.hid (Kd.V_below HVe.out h19); have HBEn := Lib.hid (HBEc.out.trans (h19.mono HBEc.out.size)); clear HXc HOc HAc HBc HLc HROc HVg HVe HBEc; have HXc := HXn; have HOc := HOn; have HAc := HAn; have HBc := HBn; have HLc := HLn; have HROc := HROn; have HVg := HVgn; have HVe := HVen; have HBEc := HBEn; clear HXn HOn HAn HBn HLn HROn HVgn HVen HBEn cA0 cA1 cA2 cA3 hR19 hS19 hB19 h19 HN18 HB18
  go_upto_region 14 with (fail)
  have hbz : Below w19.heap.size w19 (w19.alloc (.cells #[.int .i64 0, .int .i64 0, .slice A19 0 c19] 24)) := (Below.refl _ _).alloc (Nat.le_refl _) _; have HXn := Lib.hid (blk_below HXc.out hbz); have HOn := Lib.hid (blk_below HOc.out hbz); have HAn := Lib.hid (blk_below HAc.out hbz); have HBn := Lib.hid (blk_below HBc.out hbz); have HLn := Lib.hid (blk_below HLc.out hbz); have HROn := Lib.hid (Kd.R_below HROc.out hbz); have HVgn := Lib.hid (Kd.V_below HVg.out hbz); have HVen := Lib.hid (Kd.V_below HVe.out hbz); have HBEn := Lib.hid (HBEc.out.trans (hbz.mono HBEc.out.size)); clear HXc HOc HAc HBc HLc HROc HVg HVe HBEc; have HXc := HXn; have HOc := HOn; have HAc := HAn; have HBc := HBn; have HLc := HLn; have HROc := HROn; have HVg := HVgn; have HVe := HVen; have HBEc := HBEn; clear HXn HOn HAn HBn HLn HROn HVgn HVen HBEn hbz
  generalize w19.alloc (.cells #[.int .i64 0, .int .i64 0, .slice A19 0 c19] 24) = wz at HXc HOc HAc HBc HLc HROc HVg HVe HBEc ⊢
  have cA0 : wz.cell? ⟨w1.heap.size + 1 + 1, 0, none⟩ = some (.int .i64 1) := blk_cell HAc.out 0; have cA1 : wz.cell? ⟨w1.heap.size + 1 + 1, 1, none⟩ = some (.int .i64 1) := blk_cell HAc.out 1; have cA2 : wz.cell? ⟨w1.heap.size + 1 + 1, 2, none⟩ = some (.string ⟨#[114]⟩) := blk_cell HAc.out 2; have cA3 : wz.cell? ⟨w1.heap.size + 1 + 1, 3, none⟩ = some (.string ⟨#[97]⟩) := blk_cell HAc.out 3; have hmk := mk64_9; have g : Below wz.heap.size wz wz.drew := below_drew (Below.refl _ _); refine start_ (n := 13) (S := fun w' => w'.cell? ⟨w1.heap.size + 1 + 1, 0, none⟩ = some (.int .i64 1) ∧ w'.cell? ⟨w1.heap.size + 1 + 1, 1, none⟩ = some (.int .i64 1) ∧ w'.cell? ⟨w1.heap.size + 1 + 1, 2, none⟩ = some (.string ⟨#[114]⟩) ∧ w'.cell? ⟨w1.heap.size + 1 + 1, 3, none⟩ = some (.string ⟨#[97]⟩)) (ds := [10]) #[false, false, false, false, false, false, false, false, false, false, false, false, false] (by kernel_rfl) rfl rfl ⟨cA0, cA1, cA2, cA3⟩ (fun hHeld => ?_); refine take_ (i := 2) (N := some 128) (v := ?_) (a' := ?_) #[false, false, true, false, false, false, false, false, false, false, false, false, false] rfl rfl (by kernel_rfl) (fun _ _ _ h => h) (Or.inl ⟨by rfl, ?_⟩) hHeld ?_ ?_; rotate_left
  · rintro w' ⟨s0, s1, s2, s3⟩; go_simp
    with_reducible rfl
  rotate_left
  · simp only [Act.put, List.setIfInBounds_toArray, List.set_cons_zero, List.set_cons_succ, i64_w, i32_w]; rfl
  refine join_ (σ := Nat × Nat × Nat × Option Addr × Nat × Option Addr × Nat) 3 b10_11 (fun s_ => [(126, .slice (some ⟨s_.1, 0, none⟩) 64 64), (129, .slice (some ⟨s_.2.1, 0, none⟩) 1 1), (11, .pointer (some ⟨s_.2.2.1, 0, none⟩)), (130, .tuple #[.agg #[.int .i64 0, .int .i64 0, .slice s_.2.2.2.1 ([] : List S38).length s_.2.2.2.2.1], .slice s_.2.2.2.2.2.1 ([] : List S38).length s_.2.2.2.2.2.2, .int .i64 9]), (127, .agg #[.int .i64 0, .int .i64 0, .slice (some ⟨s_.1, 0, none⟩) 64 64]), (125, .tuple #[.agg #[.int .i64 0, .int .i64 0, .slice s_.2.2.2.1 ([] : List S38).length s_.2.2.2.2.1], .slice s_.2.2.2.2.2.1 ([] : List S38).length s_.2.2.2.2.2.2, .int .i64 9]), (131, .agg #[.int .i64 0, .int .i64 0, .slice s_.2.2.2.1 ([] : List S38).length s_.2.2.2.2.1]), (132, .slice s_.2.2.2.2.2.1 ([] : List S38).length s_.2.2.2.2.2.2), (133, .int .i64 9)]) (fun s_ w' => Below wz.heap.size wz w' ∧ w'.heap[s_.1]? = some (.cells zeros64_9 38 (0, 0)) ∧ w'.heap[s_.2.1]? = some (.cells #[.int .i64 1, .int .i64 1, .string ⟨#[114]⟩, .string ⟨#[97]⟩] 36 (0, 0)) ∧ (w'.heap[s_.2.2.1]? = some (.cells #[.int .i64 0, .int .i64 0, .slice none 0 0] 24 (0, 0)) ∧ wz.heap.size ≤ s_.2.2.1)) ?_ ?_; rotate_left
  · intro hJ0_3_4_9; refine join_ (σ := Nat × Nat × Nat × Option Addr × Nat × Option Addr × Nat) 4 b10_12 (fun s_ => [(126, .slice (some ⟨s_.1, 0, none⟩) 64 64), (129, .slice (some ⟨s_.2.1, 0, none⟩) 1 1), (130, .tuple #[.agg #[.int .i64 0, .int .i64 0, .slice s_.2.2.2.1 ([] : List S38).length s_.2.2.2.2.1], .slice s_.2.2.2.2.2.1 ([] : List S38).length s_.2.2.2.2.2.2, .int .i64 9]), (127, .agg #[.int .i64 0, .int .i64 0, .slice (some ⟨s_.1, 0, none⟩) 64 64]), (125, .tuple #[.agg #[.int .i64 0, .int .i64 0, .slice s_.2.2.2.1 ([] : List S38).length s_.2.2.2.2.1], .slice s_.2.2.2.2.2.1 ([] : List S38).length s_.2.2.2.2.2.2, .int .i64 9]), (131, .agg #[.int .i64 0, .int .i64 0, .slice s_.2.2.2.1 ([] : List S38).length s_.2.2.2.2.1]), (132, .slice s_.2.2.2.2.2.1 ([] : List S38).length s_.2.2.2.2.2.2), (133, .int .i64 9)]) (fun s_ w' => Below wz.heap.size wz w' ∧ w'.heap[s_.1]? = some (.cells zeros64_9 38 (0, 0)) ∧ w'.heap[s_.2.1]? = some (.cells #[.int .i64 1, .int .i64 1, .string ⟨#[114]⟩, .string ⟨#[97]⟩] 36 (0, 0))) ?_ ?_; rotate_left
    · intro hJ0_3_4; refine join_ (σ := Nat × Nat × Nat × Option Addr × Nat × Option Addr × Nat) 8 b10_13 (fun s_ => [(126, .slice (some ⟨s_.1, 0, none⟩) 64 64), (129, .slice (some ⟨s_.2.1, 0, none⟩) 1 1), (11, .pointer (some ⟨s_.2.2.1, 0, none⟩)), (127, .agg #[.int .i64 0, .int .i64 0, .slice (some ⟨s_.1, 0, none⟩) 64 64])]) (fun s_ w' => Below wz.heap.size wz w' ∧ w'.heap[s_.1]? = some (.cells zeros64_9 38 (0, 0)) ∧ w'.heap[s_.2.1]? = some (.cells #[.int .i64 1, .int .i64 1, .string ⟨#[114]⟩, .string ⟨#[97]⟩] 36 (0, 0)) ∧ (w'.heap[s_.2.2.1]? = some (.cells #[.int .i64 0, .int .i64 0, .slice none 0 0] 24 (0, 0)) ∧ wz.heap.size ≤ s_.2.2.1)) ?_ ?_; rotate_left
      · intro hJ0_3_9; refine join_ (σ := Nat × Nat × Nat × Option Addr × Nat × Option Addr × Nat) 9 b10_14 (fun s_ => [(126, .slice (some ⟨s_.1, 0, none⟩) 64 64), (129, .slice (some ⟨s_.2.1, 0, none⟩) 1 1), (127, .agg #[.int .i64 0, .int .i64 0, .slice (some ⟨s_.1, 0, none⟩) 64 64])]) (fun s_ w' => Below wz.heap.size wz w' ∧ w'.heap[s_.1]? = some (.cells zeros64_9 38 (0, 0)) ∧ w'.heap[s_.2.1]? = some (.cells #[.int .i64 1, .int .i64 1, .string ⟨#[114]⟩, .string ⟨#[97]⟩] 36 (0, 0))) ?_ ?_; rotate_left
        · intro hJ0_3; refine join_ (σ := Nat × Nat × Nat × Option Addr × Nat × Option Addr × Nat) 9 b10_15 (fun s_ => [(126, .slice (some ⟨s_.1, 0, none⟩) 64 64), (11, .pointer (some ⟨s_.2.2.1, 0, none⟩)), (127, .agg #[.int .i64 0, .int .i64 0, .slice (some ⟨s_.1, 0, none⟩) 64 64])]) (fun s_ w' => Below wz.heap.size wz w' ∧ w'.heap[s_.1]? = some (.cells zeros64_9 38 (0, 0)) ∧ (w'.heap[s_.2.2.1]? = some (.cells #[.int .i64 0, .int .i64 0, .slice none 0 0] 24 (0, 0)) ∧ wz.heap.size ≤ s_.2.2.1)) ?_ ?_; rotate_left
          · intro hJ0_9; refine join_ (σ := Nat × Nat × Nat × Option Addr × Nat × Option Addr × Nat) 10 b10_16 (fun s_ => [(129, .slice (some ⟨s_.2.1, 0, none⟩) 1 1), (11, .pointer (some ⟨s_.2.2.1, 0, none⟩))]) (fun s_ w' => Below wz.heap.size wz w' ∧ w'.heap[s_.2.1]? = some (.cells #[.int .i64 1, .int .i64 1, .string ⟨#[114]⟩, .string ⟨#[97]⟩] 36 (0, 0)) ∧ (w'.heap[s_.2.2.1]? = some (.cells #[.int .i64 0, .int .i64 0, .slice none 0 0] 24 (0, 0)) ∧ wz.heap.size ≤ s_.2.2.1)) ?_ ?_; rotate_left
            · intro hJ3_9; refine join_ (σ := Nat × Nat × Nat × Option Addr × Nat × Option Addr × Nat) 10 b10_17 (fun s_ => [(126, .slice (some ⟨s_.1, 0, none⟩) 64 64), (127, .agg #[.int .i64 0, .int .i64 0, .slice (some ⟨s_.1, 0, none⟩) 64 64])]) (fun s_ w' => Below wz.heap.size wz w' ∧ w'.heap[s_.1]? = some (.cells zeros64_9 38 (0, 0))) ?_ ?_; rotate_left
              · intro hJ0; refine join_ (σ := Nat × Nat × Nat × Option Addr × Nat × Option Addr × Nat) 11 b10_18 (fun s_ => [(129, .slice (some ⟨s_.2.1, 0, none⟩) 1 1)]) (fun s_ w' => Below wz.heap.size wz w' ∧ w'.heap[s_.2.1]? = some (.cells #[.int .i64 1, .int .i64 1, .string ⟨#[114]⟩, .string ⟨#[97]⟩] 36 (0, 0))) ?_ ?_; rotate_left
                · intro hJ3; refine join_ (σ := Nat × Nat × Nat × Option Addr × Nat × Option Addr × Nat) 11 b10_19 (fun s_ => [(11, .pointer (some ⟨s_.2.2.1, 0, none⟩))]) (fun s_ w' => Below wz.heap.size wz w' ∧ (w'.heap[s_.2.2.1]? = some (.cells #[.int .i64 0, .int .i64 0, .slice none 0 0] 24 (0, 0)) ∧ wz.heap.size ≤ s_.2.2.1)) ?_ ?_; rotate_left
                  · intro hJ9; refine three_ (i := 0) (j := 3) (k := 9) (Ni := some 126) (Nj := some 129) (Nk := some 11) #[true, false, true, false, false, false, false, false, false, false, false, false, false] b10_18 b10_19 rfl rfl rfl rfl rfl rfl (by kernel_rfl) (by decide) (by decide) (by decide) (fun K hK => ?_) (fun K hK => ?_) (fun K hK => ?_)
                    · skip
                      refine value_ (w1 := ?_) (v := ?_) (by rfl) rfl ?_ ?_; rotate_left 2
                      · go_simp
                        constructor
                        · rfl
                        · rfl
                      refine hK.out _ _ ⟨(blk_cell (blk_below HAc.out (g.alloc g.size _)) 0), (blk_cell (blk_below HAc.out (g.alloc g.size _)) 1), (blk_cell (blk_below HAc.out (g.alloc g.size _)) 2), (blk_cell (blk_below HAc.out (g.alloc g.size _)) 3)⟩ (fun hHeld => ?_); clear hK K; refine norm_ (a' := ?_) ?_ ?_; rotate_left
                      · show Act.put _ (some 126) _ = _
                        simp only [Act.put, List.setIfInBounds_toArray, List.set_cons_zero, List.set_cons_succ, i64_w, i32_w]; rfl
                      refine pure_ (i := 1) (N := some 127) (v := ?_) (a' := ?_) b10_17 rfl rfl (by kernel_rfl) (fun _ _ _ h => h) (Or.inl ⟨by rfl, ?_⟩) ?_ ?_; rotate_left
                      · intro w'; go_simp
                        with_reducible rfl
                      rotate_left
                      · simp only [Act.put, List.setIfInBounds_toArray, List.set_cons_zero, List.set_cons_succ, i64_w, i32_w]; rfl
                      exact norm_ (by first | (simp only [putAll, Act.put, List.setIfInBounds_toArray, List.set_cons_zero, List.set_cons_succ]; done) | (simp only [putAll, Act.put, List.setIfInBounds_toArray, List.set_cons_zero, List.set_cons_succ]; rfl)) (hJ0 (wz.drew.heap.size, 0, 0, none, 0, none, 0) _ ⟨g.alloc g.size _, World.alloc_heap_new wz.drew _⟩)
                    · skip
                      refine value_ (w1 := ?_) (v := ?_) (by rfl) rfl ?_ ?_; rotate_left 2
                      · go_simp
                        constructor
                        · rfl
                        · rfl
                      refine hK.out _ _ ⟨(blk_cell (blk_below HAc.out (g.alloc g.size _)) 0), (blk_cell (blk_below HAc.out (g.alloc g.size _)) 1), (blk_cell (blk_below HAc.out (g.alloc g.size _)) 2), (blk_cell (blk_below HAc.out (g.alloc g.size _)) 3)⟩ (fun hHeld => ?_); clear hK K; refine norm_ (a' := ?_) ?_ ?_; rotate_left
                      · show Act.put _ (some 129) _ = _
                        simp only [Act.put, List.setIfInBounds_toArray, List.set_cons_zero, List.set_cons_succ, i64_w, i32_w]; rfl
                      exact norm_ (by first | (simp only [putAll, Act.put, List.setIfInBounds_toArray, List.set_cons_zero, List.set_cons_succ]; done) | (simp only [putAll, Act.put, List.setIfInBounds_toArray, List.set_cons_zero, List.set_cons_succ]; rfl)) (hJ3 (0, wz.drew.heap.size, 0, none, 0, none, 0) _ ⟨g.alloc g.size _, World.alloc_heap_new wz.drew _⟩)
                    · skip
                      refine value_ (w1 := ?_) (v := ?_) (by rfl) rfl ?_ ?_; rotate_left 2
                      · go_simp
                        constructor
                        · rfl
                        · rfl
                      refine hK.out _ _ ⟨(blk_cell (blk_below HAc.out (g.alloc g.size _)) 0), (blk_cell (blk_below HAc.out (g.alloc g.size _)) 1), (blk_cell (blk_below HAc.out (g.alloc g.size _)) 2), (blk_cell (blk_below HAc.out (g.alloc g.size _)) 3)⟩ (fun hHeld => ?_); clear hK K; refine norm_ (a' := ?_) ?_ ?_; rotate_left
                      · show Act.put _ (some 11) _ = _
                        simp only [Act.put, List.setIfInBounds_toArray, List.set_cons_zero, List.set_cons_succ, i64_w, i32_w]; rfl
                      exact norm_ (by first | (simp only [putAll, Act.put, List.setIfInBounds_toArray, List.set_cons_zero, List.set_cons_succ]; done) | (simp only [putAll, Act.put, List.setIfInBounds_toArray, List.set_cons_zero, List.set_cons_succ]; rfl)) (hJ9 (0, 0, wz.drew.heap.size, none, 0, none, 0) _ ⟨g.alloc g.size _, ⟨World.alloc_heap_new wz.drew _, g.size⟩⟩)
                  · skip
                    rintro ⟨bM, bA, bR, A21, c21, D21, d21⟩ wn9 ⟨g, gR⟩; have hHeld : wn9.cell? ⟨w1.heap.size + 1 + 1, 0, none⟩ = some (.int .i64 1) ∧ wn9.cell? ⟨w1.heap.size + 1 + 1, 1, none⟩ = some (.int .i64 1) ∧ wn9.cell? ⟨w1.heap.size + 1 + 1, 2, none⟩ = some (.string ⟨#[114]⟩) ∧ wn9.cell? ⟨w1.heap.size + 1 + 1, 3, none⟩ = some (.string ⟨#[97]⟩) := ⟨blk_cell (blk_below HAc.out g) 0, blk_cell (blk_below HAc.out g) 1, blk_cell (blk_below HAc.out g) 2, blk_cell (blk_below HAc.out g) 3⟩; refine norm_ (a' := ?_) ?_ ?_; rotate_left
                    · simp only [putAll, Act.put, List.setIfInBounds_toArray, List.set_cons_zero, List.set_cons_succ]; rfl
                    refine two_ (i := 0) (j := 3) (Ni := some 126) (Nj := some 129) #[true, false, true, false, false, false, false, false, false, true, false, false, false] b10_16 rfl rfl rfl rfl (by kernel_rfl) (by decide) (by decide) (fun K hK => ?_) (fun K hK => ?_)
                    · skip
                      refine value_ (w1 := ?_) (v := ?_) (by rfl) rfl ?_ ?_; rotate_left 2
                      · go_simp
                        constructor
                        · rfl
                        · rfl
                      refine hK.out _ _ ⟨(blk_cell (blk_below HAc.out (g.alloc g.size _)) 0), (blk_cell (blk_below HAc.out (g.alloc g.size _)) 1), (blk_cell (blk_below HAc.out (g.alloc g.size _)) 2), (blk_cell (blk_below HAc.out (g.alloc g.size _)) 3)⟩ (fun hHeld => ?_); clear hK K; refine norm_ (a' := ?_) ?_ ?_; rotate_left
                      · show Act.put _ (some 126) _ = _
                        simp only [Act.put, List.setIfInBounds_toArray, List.set_cons_zero, List.set_cons_succ, i64_w, i32_w]; rfl
                      refine pure_ (i := 1) (N := some 127) (v := ?_) (a' := ?_) b10_15 rfl rfl (by kernel_rfl) (fun _ _ _ h => h) (Or.inl ⟨by rfl, ?_⟩) ?_ ?_; rotate_left
                      · intro w'; go_simp
                        with_reducible rfl
                      rotate_left
                      · simp only [Act.put, List.setIfInBounds_toArray, List.set_cons_zero, List.set_cons_succ, i64_w, i32_w]; rfl
                      exact norm_ (by first | (simp only [putAll, Act.put, List.setIfInBounds_toArray, List.set_cons_zero, List.set_cons_succ]; done) | (simp only [putAll, Act.put, List.setIfInBounds_toArray, List.set_cons_zero, List.set_cons_succ]; rfl)) (hJ0_9 (wn9.heap.size, 0, bR, none, 0, none, 0) _ ⟨g.alloc g.size _, World.alloc_heap_new wn9 _, ⟨blk_alloc gR.1 _, gR.2⟩⟩)
                    · skip
                      refine value_ (w1 := ?_) (v := ?_) (by rfl) rfl ?_ ?_; rotate_left 2
                      · go_simp
                        constructor
                        · rfl
                        · rfl
                      refine hK.out _ _ ⟨(blk_cell (blk_below HAc.out (g.alloc g.size _)) 0), (blk_cell (blk_below HAc.out (g.alloc g.size _)) 1), (blk_cell (blk_below HAc.out (g.alloc g.size _)) 2), (blk_cell (blk_below HAc.out (g.alloc g.size _)) 3)⟩ (fun hHeld => ?_); clear hK K; refine norm_ (a' := ?_) ?_ ?_; rotate_left
                      · show Act.put _ (some 129) _ = _
                        simp only [Act.put, List.setIfInBounds_toArray, List.set_cons_zero, List.set_cons_succ, i64_w, i32_w]; rfl
                      exact norm_ (by first | (simp only [putAll, Act.put, List.setIfInBounds_toArray, List.set_cons_zero, List.set_cons_succ]; done) | (simp only [putAll, Act.put, List.setIfInBounds_toArray, List.set_cons_zero, List.set_cons_succ]; rfl)) (hJ3_9 (0, wn9.heap.size, bR, none, 0, none, 0) _ ⟨g.alloc g.size _, World.alloc_heap_new wn9 _, ⟨blk_alloc gR.1 _, gR.2⟩⟩)
                · skip
                  rintro ⟨bM, bA, bR, A21, c21, D21, d21⟩ wn3 ⟨g, gA⟩; have hHeld : wn3.cell? ⟨w1.heap.size + 1 + 1, 0, none⟩ = some (.int .i64 1) ∧ wn3.cell? ⟨w1.heap.size + 1 + 1, 1, none⟩ = some (.int .i64 1) ∧ wn3.cell? ⟨w1.heap.size + 1 + 1, 2, none⟩ = some (.string ⟨#[114]⟩) ∧ wn3.cell? ⟨w1.heap.size + 1 + 1, 3, none⟩ = some (.string ⟨#[97]⟩) := ⟨blk_cell (blk_below HAc.out g) 0, blk_cell (blk_below HAc.out g) 1, blk_cell (blk_below HAc.out g) 2, blk_cell (blk_below HAc.out g) 3⟩; refine norm_ (a' := ?_) ?_ ?_; rotate_left
                  · simp only [putAll, Act.put, List.setIfInBounds_toArray, List.set_cons_zero, List.set_cons_succ]; rfl
                  refine two_ (i := 0) (j := 9) (Ni := some 126) (Nj := some 11) #[true, false, true, true, false, false, false, false, false, false, false, false, false] b10_16 rfl rfl rfl rfl (by kernel_rfl) (by decide) (by decide) (fun K hK => ?_) (fun K hK => ?_)
                  · skip
                    refine value_ (w1 := ?_) (v := ?_) (by rfl) rfl ?_ ?_; rotate_left 2
                    · go_simp
                      constructor
                      · rfl
                      · rfl
                    refine hK.out _ _ ⟨(blk_cell (blk_below HAc.out (g.alloc g.size _)) 0), (blk_cell (blk_below HAc.out (g.alloc g.size _)) 1), (blk_cell (blk_below HAc.out (g.alloc g.size _)) 2), (blk_cell (blk_below HAc.out (g.alloc g.size _)) 3)⟩ (fun hHeld => ?_); clear hK K; refine norm_ (a' := ?_) ?_ ?_; rotate_left
                    · show Act.put _ (some 126) _ = _
                      simp only [Act.put, List.setIfInBounds_toArray, List.set_cons_zero, List.set_cons_succ, i64_w, i32_w]; rfl
                    refine pure_ (i := 1) (N := some 127) (v := ?_) (a' := ?_) b10_14 rfl rfl (by kernel_rfl) (fun _ _ _ h => h) (Or.inl ⟨by rfl, ?_⟩) ?_ ?_; rotate_left
                    · intro w'; go_simp
                      with_reducible rfl
                    rotate_left
                    · simp only [Act.put, List.setIfInBounds_toArray, List.set_cons_zero, List.set_cons_succ, i64_w, i32_w]; rfl
                    exact norm_ (by first | (simp only [putAll, Act.put, List.setIfInBounds_toArray, List.set_cons_zero, List.set_cons_succ]; done) | (simp only [putAll, Act.put, List.setIfInBounds_toArray, List.set_cons_zero, List.set_cons_succ]; rfl)) (hJ0_3 (wn3.heap.size, bA, 0, none, 0, none, 0) _ ⟨g.alloc g.size _, World.alloc_heap_new wn3 _, blk_alloc gA _⟩)
                  · skip
                    refine value_ (w1 := ?_) (v := ?_) (by rfl) rfl ?_ ?_; rotate_left 2
                    · go_simp
                      constructor
                      · rfl
                      · rfl
                    refine hK.out _ _ ⟨(blk_cell (blk_below HAc.out (g.alloc g.size _)) 0), (blk_cell (blk_below HAc.out (g.alloc g.size _)) 1), (blk_cell (blk_below HAc.out (g.alloc g.size _)) 2), (blk_cell (blk_below HAc.out (g.alloc g.size _)) 3)⟩ (fun hHeld => ?_); clear hK K; refine norm_ (a' := ?_) ?_ ?_; rotate_left
                    · show Act.put _ (some 11) _ = _
                      simp only [Act.put, List.setIfInBounds_toArray, List.set_cons_zero, List.set_cons_succ, i64_w, i32_w]; rfl
                    exact norm_ (by first | (simp only [putAll, Act.put, List.setIfInBounds_toArray, List.set_cons_zero, List.set_cons_succ]; done) | (simp only [putAll, Act.put, List.setIfInBounds_toArray, List.set_cons_zero, List.set_cons_succ]; rfl)) (hJ3_9 (0, bA, wn3.heap.size, none, 0, none, 0) _ ⟨g.alloc g.size _, blk_alloc gA _, ⟨World.alloc_heap_new wn3 _, g.size⟩⟩)
              · skip
                rintro ⟨bM, bA, bR, A21, c21, D21, d21⟩ wn0 ⟨g, gM⟩; have hHeld : wn0.cell? ⟨w1.heap.size + 1 + 1, 0, none⟩ = some (.int .i64 1) ∧ wn0.cell? ⟨w1.heap.size + 1 + 1, 1, none⟩ = some (.int .i64 1) ∧ wn0.cell? ⟨w1.heap.size + 1 + 1, 2, none⟩ = some (.string ⟨#[114]⟩) ∧ wn0.cell? ⟨w1.heap.size + 1 + 1, 3, none⟩ = some (.string ⟨#[97]⟩) := ⟨blk_cell (blk_below HAc.out g) 0, blk_cell (blk_below HAc.out g) 1, blk_cell (blk_below HAc.out g) 2, blk_cell (blk_below HAc.out g) 3⟩; refine norm_ (a' := ?_) ?_ ?_; rotate_left
                · simp only [putAll, Act.put, List.setIfInBounds_toArray, List.set_cons_zero, List.set_cons_succ]; rfl
                refine two_ (i := 3) (j := 9) (Ni := some 129) (Nj := some 11) b10_14 b10_15 rfl rfl rfl rfl (by kernel_rfl) (by decide) (by decide) (fun K hK => ?_) (fun K hK => ?_)
                · skip
                  refine value_ (w1 := ?_) (v := ?_) (by rfl) rfl ?_ ?_; rotate_left 2
                  · go_simp
                    constructor
                    · rfl
                    · rfl
                  refine hK.out _ _ ⟨(blk_cell (blk_below HAc.out (g.alloc g.size _)) 0), (blk_cell (blk_below HAc.out (g.alloc g.size _)) 1), (blk_cell (blk_below HAc.out (g.alloc g.size _)) 2), (blk_cell (blk_below HAc.out (g.alloc g.size _)) 3)⟩ (fun hHeld => ?_); clear hK K; refine norm_ (a' := ?_) ?_ ?_; rotate_left
                  · show Act.put _ (some 129) _ = _
                    simp only [Act.put, List.setIfInBounds_toArray, List.set_cons_zero, List.set_cons_succ, i64_w, i32_w]; rfl
                  exact norm_ (by first | (simp only [putAll, Act.put, List.setIfInBounds_toArray, List.set_cons_zero, List.set_cons_succ]; done) | (simp only [putAll, Act.put, List.setIfInBounds_toArray, List.set_cons_zero, List.set_cons_succ]; rfl)) (hJ0_3 (bM, wn0.heap.size, 0, none, 0, none, 0) _ ⟨g.alloc g.size _, blk_alloc gM _, World.alloc_heap_new wn0 _⟩)
                · skip
                  refine value_ (w1 := ?_) (v := ?_) (by rfl) rfl ?_ ?_; rotate_left 2
                  · go_simp
                    constructor
                    · rfl
                    · rfl
                  refine hK.out _ _ ⟨(blk_cell (blk_below HAc.out (g.alloc g.size _)) 0), (blk_cell (blk_below HAc.out (g.alloc g.size _)) 1), (blk_cell (blk_below HAc.out (g.alloc g.size _)) 2), (blk_cell (blk_below HAc.out (g.alloc g.size _)) 3)⟩ (fun hHeld => ?_); clear hK K; refine norm_ (a' := ?_) ?_ ?_; rotate_left
                  · show Act.put _ (some 11) _ = _
                    simp only [Act.put, List.setIfInBounds_toArray, List.set_cons_zero, List.set_cons_succ, i64_w, i32_w]; rfl
                  exact norm_ (by first | (simp only [putAll, Act.put, List.setIfInBounds_toArray, List.set_cons_zero, List.set_cons_succ]; done) | (simp only [putAll, Act.put, List.setIfInBounds_toArray, List.set_cons_zero, List.set_cons_succ]; rfl)) (hJ0_9 (bM, 0, wn0.heap.size, none, 0, none, 0) _ ⟨g.alloc g.size _, blk_alloc gM _, ⟨World.alloc_heap_new wn0 _, g.size⟩⟩)
            · skip
              rintro ⟨bM, bA, bR, A21, c21, D21, d21⟩ wn39 ⟨g, gA, gR⟩; have hHeld : wn39.cell? ⟨w1.heap.size + 1 + 1, 0, none⟩ = some (.int .i64 1) ∧ wn39.cell? ⟨w1.heap.size + 1 + 1, 1, none⟩ = some (.int .i64 1) ∧ wn39.cell? ⟨w1.heap.size + 1 + 1, 2, none⟩ = some (.string ⟨#[114]⟩) ∧ wn39.cell? ⟨w1.heap.size + 1 + 1, 3, none⟩ = some (.string ⟨#[97]⟩) := ⟨blk_cell (blk_below HAc.out g) 0, blk_cell (blk_below HAc.out g) 1, blk_cell (blk_below HAc.out g) 2, blk_cell (blk_below HAc.out g) 3⟩; refine norm_ (a' := ?_) ?_ ?_; rotate_left
              · simp only [putAll, Act.put, List.setIfInBounds_toArray, List.set_cons_zero, List.set_cons_succ]; rfl
              refine one_ (i := 0) (N := some 126) #[true, false, true, true, false, false, false, false, false, true, false, false, false] rfl rfl (by kernel_rfl) (by decide) (fun K hK => ?_); refine value_ (w1 := ?_) (v := ?_) (by rfl) rfl ?_ ?_; rotate_left 2
              · go_simp
                constructor
                · rfl
                · rfl
              refine hK.out _ _ ⟨(blk_cell (blk_below HAc.out (g.alloc g.size _)) 0), (blk_cell (blk_below HAc.out (g.alloc g.size _)) 1), (blk_cell (blk_below HAc.out (g.alloc g.size _)) 2), (blk_cell (blk_below HAc.out (g.alloc g.size _)) 3)⟩ (fun hHeld => ?_); clear hK K; refine norm_ (a' := ?_) ?_ ?_; rotate_left
              · show Act.put _ (some 126) _ = _
                simp only [Act.put, List.setIfInBounds_toArray, List.set_cons_zero, List.set_cons_succ, i64_w, i32_w]; rfl
              refine pure_ (i := 1) (N := some 127) (v := ?_) (a' := ?_) b10_13 rfl rfl (by kernel_rfl) (fun _ _ _ h => h) (Or.inl ⟨by rfl, ?_⟩) ?_ ?_; rotate_left
              · intro w'; go_simp
                with_reducible rfl
              rotate_left
              · simp only [Act.put, List.setIfInBounds_toArray, List.set_cons_zero, List.set_cons_succ, i64_w, i32_w]; rfl
              exact norm_ (by first | (simp only [putAll, Act.put, List.setIfInBounds_toArray, List.set_cons_zero, List.set_cons_succ]; done) | (simp only [putAll, Act.put, List.setIfInBounds_toArray, List.set_cons_zero, List.set_cons_succ]; rfl)) (hJ0_3_9 (wn39.heap.size, bA, bR, none, 0, none, 0) _ ⟨g.alloc g.size _, World.alloc_heap_new wn39 _, blk_alloc gA _, ⟨blk_alloc gR.1 _, gR.2⟩⟩)
          · skip
            rintro ⟨bM, bA, bR, A21, c21, D21, d21⟩ wn09 ⟨g, gM, gR⟩; have hHeld : wn09.cell? ⟨w1.heap.size + 1 + 1, 0, none⟩ = some (.int .i64 1) ∧ wn09.cell? ⟨w1.heap.size + 1 + 1, 1, none⟩ = some (.int .i64 1) ∧ wn09.cell? ⟨w1.heap.size + 1 + 1, 2, none⟩ = some (.string ⟨#[114]⟩) ∧ wn09.cell? ⟨w1.heap.size + 1 + 1, 3, none⟩ = some (.string ⟨#[97]⟩) := ⟨blk_cell (blk_below HAc.out g) 0, blk_cell (blk_below HAc.out g) 1, blk_cell (blk_below HAc.out g) 2, blk_cell (blk_below HAc.out g) 3⟩; refine norm_ (a' := ?_) ?_ ?_; rotate_left
            · simp only [putAll, Act.put, List.setIfInBounds_toArray, List.set_cons_zero, List.set_cons_succ]; rfl
            refine one_ (i := 3) (N := some 129) b10_13 rfl rfl (by kernel_rfl) (by decide) (fun K hK => ?_); refine value_ (w1 := ?_) (v := ?_) (by rfl) rfl ?_ ?_; rotate_left 2
            · go_simp
              constructor
              · rfl
              · rfl
            refine hK.out _ _ ⟨(blk_cell (blk_below HAc.out (g.alloc g.size _)) 0), (blk_cell (blk_below HAc.out (g.alloc g.size _)) 1), (blk_cell (blk_below HAc.out (g.alloc g.size _)) 2), (blk_cell (blk_below HAc.out (g.alloc g.size _)) 3)⟩ (fun hHeld => ?_); clear hK K; refine norm_ (a' := ?_) ?_ ?_; rotate_left
            · show Act.put _ (some 129) _ = _
              simp only [Act.put, List.setIfInBounds_toArray, List.set_cons_zero, List.set_cons_succ, i64_w, i32_w]; rfl
            exact norm_ (by first | (simp only [putAll, Act.put, List.setIfInBounds_toArray, List.set_cons_zero, List.set_cons_succ]; done) | (simp only [putAll, Act.put, List.setIfInBounds_toArray, List.set_cons_zero, List.set_cons_succ]; rfl)) (hJ0_3_9 (bM, wn09.heap.size, bR, none, 0, none, 0) _ ⟨g.alloc g.size _, blk_alloc gM _, World.alloc_heap_new wn09 _, ⟨blk_alloc gR.1 _, gR.2⟩⟩)
        · skip
          rintro ⟨bM, bA, bR, A21, c21, D21, d21⟩ wn03 ⟨g, gM, gA⟩; have hHeld : wn03.cell? ⟨w1.heap.size + 1 + 1, 0, none⟩ = some (.int .i64 1) ∧ wn03.cell? ⟨w1.heap.size + 1 + 1, 1, none⟩ = some (.int .i64 1) ∧ wn03.cell? ⟨w1.heap.size + 1 + 1, 2, none⟩ = some (.string ⟨#[114]⟩) ∧ wn03.cell? ⟨w1.heap.size + 1 + 1, 3, none⟩ = some (.string ⟨#[97]⟩) := ⟨blk_cell (blk_below HAc.out g) 0, blk_cell (blk_below HAc.out g) 1, blk_cell (blk_below HAc.out g) 2, blk_cell (blk_below HAc.out g) 3⟩; refine norm_ (a' := ?_) ?_ ?_; rotate_left
          · simp only [putAll, Act.put, List.setIfInBounds_toArray, List.set_cons_zero, List.set_cons_succ]; rfl
          refine two_ (i := 4) (j := 9) (Ni := some 130) (Nj := some 11) #[true, true, true, true, true, false, false, false, false, false, false, false, false] b10_13 rfl rfl rfl rfl (by kernel_rfl) (by decide) (by decide) (fun K hK => ?_) (fun K hK => ?_)
          · skip
            have hCA : Kd.C k36 wn03 (some ⟨bA, 0, none⟩) ([alertA9] : List S36).length [alertA9] := one36_9 (x := alertA9) gA; refine goes_ Try.func11 (by kernel_rfl) rfl #[.agg #[.int .i64 0, .int .i64 0, .slice (some ⟨bM, 0, none⟩) (List.replicate 64 z38).length 64], .slice (some ⟨bA, 0, none⟩) ([alertA9] : List S36).length 1] (by rfl) rfl rfl (by simp only [List.map_toArray, List.map_cons, List.map_nil]; rfl) ?_
            with_reducible refine (notify_Post.calls 40 0 0 (some ⟨bM, 0, none⟩) 64 (List.replicate 64 z38) (some ⟨bA, 0, none⟩) 1 [alertA9] 0 0 [] [] 9 wn03 (c64_9 gM) (by simp) hCA (Nat.le_refl _) alive9_b).mono ?_
            rintro e w21 ⟨v21, u21, rfl, hR21, hS21, hB21⟩; refine ⟨_, rfl, ?_⟩; obtain ⟨A21, c21, rfl⟩ := Kd.R_slice hR21; obtain ⟨D21, d21, rfl⟩ := Kd.R_slice hS21; have g3 := g.trans (hB21.mono g.size); refine hK.out _ _ ⟨(blk_cell (blk_below HAc.out g3) 0), (blk_cell (blk_below HAc.out g3) 1), (blk_cell (blk_below HAc.out g3) 2), (blk_cell (blk_below HAc.out g3) 3)⟩ (fun hHeld => ?_); clear hK K; refine norm_ (a' := ?_) ?_ ?_; rotate_left
            · show Act.put _ (some 130) _ = _
              simp only [Act.put, List.setIfInBounds_toArray, List.set_cons_zero, List.set_cons_succ, i64_w, i32_w]; rfl
            refine pure_ (i := 5) (N := some 125) (v := ?_) (a' := ?_) #[true, true, true, true, true, true, false, false, false, false, false, false, false] rfl rfl (by kernel_rfl) (fun _ _ _ h => h) (Or.inl ⟨by rfl, ?_⟩) ?_ ?_; rotate_left
            · intro w'; go_simp
              with_reducible rfl
            rotate_left
            · simp only [Act.put, List.setIfInBounds_toArray, List.set_cons_zero, List.set_cons_succ, i64_w, i32_w]; rfl
            refine pure_ (i := 6) (N := some 131) (v := ?_) (a' := ?_) #[true, true, true, true, true, true, true, false, false, false, false, false, false] rfl rfl (by kernel_rfl) (fun _ _ _ h => h) (Or.inl ⟨by rfl, ?_⟩) ?_ ?_; rotate_left
            · intro w'; go_simp
              with_reducible rfl
            rotate_left
            · simp only [Act.put, List.setIfInBounds_toArray, List.set_cons_zero, List.set_cons_succ, i64_w, i32_w]; rfl
            refine pure_ (i := 7) (N := some 132) (v := ?_) (a' := ?_) #[true, true, true, true, true, true, true, true, false, false, false, false, false] rfl rfl (by kernel_rfl) (fun _ _ _ h => h) (Or.inl ⟨by rfl, ?_⟩) ?_ ?_; rotate_left
            · intro w'; go_simp
              with_reducible rfl
            rotate_left
            · simp only [Act.put, List.setIfInBounds_toArray, List.set_cons_zero, List.set_cons_succ, i64_w, i32_w]; rfl
            refine pure_ (i := 8) (N := some 133) (v := ?_) (a' := ?_) b10_12 rfl rfl (by kernel_rfl) (fun _ _ _ h => h) (Or.inl ⟨by rfl, ?_⟩) ?_ ?_; rotate_left
            · intro w'; go_simp
              with_reducible rfl
            rotate_left
            · simp only [Act.put, List.setIfInBounds_toArray, List.set_cons_zero, List.set_cons_succ, i64_w, i32_w]; rfl
            exact norm_ (by first | (simp only [putAll, Act.put, List.setIfInBounds_toArray, List.set_cons_zero, List.set_cons_succ]; done) | (simp only [putAll, Act.put, List.setIfInBounds_toArray, List.set_cons_zero, List.set_cons_succ]; rfl)) (hJ0_3_4 (bM, bA, 0, A21, c21, D21, d21) _ ⟨g3, blk_below gM hB21, blk_below gA hB21⟩)
          · skip
            refine value_ (w1 := ?_) (v := ?_) (by rfl) rfl ?_ ?_; rotate_left 2
            · go_simp
              constructor
              · rfl
              · rfl
            refine hK.out _ _ ⟨(blk_cell (blk_below HAc.out (g.alloc g.size _)) 0), (blk_cell (blk_below HAc.out (g.alloc g.size _)) 1), (blk_cell (blk_below HAc.out (g.alloc g.size _)) 2), (blk_cell (blk_below HAc.out (g.alloc g.size _)) 3)⟩ (fun hHeld => ?_); clear hK K; refine norm_ (a' := ?_) ?_ ?_; rotate_left
            · show Act.put _ (some 11) _ = _
              simp only [Act.put, List.setIfInBounds_toArray, List.set_cons_zero, List.set_cons_succ, i64_w, i32_w]; rfl
            exact norm_ (by first | (simp only [putAll, Act.put, List.setIfInBounds_toArray, List.set_cons_zero, List.set_cons_succ]; done) | (simp only [putAll, Act.put, List.setIfInBounds_toArray, List.set_cons_zero, List.set_cons_succ]; rfl)) (hJ0_3_9 (bM, bA, wn03.heap.size, none, 0, none, 0) _ ⟨g.alloc g.size _, blk_alloc gM _, blk_alloc gA _, ⟨World.alloc_heap_new wn03 _, g.size⟩⟩)
      · skip
        rintro ⟨bM, bA, bR, A21, c21, D21, d21⟩ wn039 ⟨g, gM, gA, gR⟩; have hHeld : wn039.cell? ⟨w1.heap.size + 1 + 1, 0, none⟩ = some (.int .i64 1) ∧ wn039.cell? ⟨w1.heap.size + 1 + 1, 1, none⟩ = some (.int .i64 1) ∧ wn039.cell? ⟨w1.heap.size + 1 + 1, 2, none⟩ = some (.string ⟨#[114]⟩) ∧ wn039.cell? ⟨w1.heap.size + 1 + 1, 3, none⟩ = some (.string ⟨#[97]⟩) := ⟨blk_cell (blk_below HAc.out g) 0, blk_cell (blk_below HAc.out g) 1, blk_cell (blk_below HAc.out g) 2, blk_cell (blk_below HAc.out g) 3⟩; refine norm_ (a' := ?_) ?_ ?_; rotate_left
        · simp only [putAll, Act.put, List.setIfInBounds_toArray, List.set_cons_zero, List.set_cons_succ]; rfl
        refine one_ (i := 4) (N := some 130) #[true, true, true, true, true, false, false, false, false, true, false, false, false] rfl rfl (by kernel_rfl) (by decide) (fun K hK => ?_); have hCA : Kd.C k36 wn039 (some ⟨bA, 0, none⟩) ([alertA9] : List S36).length [alertA9] := one36_9 (x := alertA9) gA; refine goes_ Try.func11 (by kernel_rfl) rfl #[.agg #[.int .i64 0, .int .i64 0, .slice (some ⟨bM, 0, none⟩) (List.replicate 64 z38).length 64], .slice (some ⟨bA, 0, none⟩) ([alertA9] : List S36).length 1] (by rfl) rfl rfl (by simp only [List.map_toArray, List.map_cons, List.map_nil]; rfl) ?_
        with_reducible refine (notify_Post.calls 40 0 0 (some ⟨bM, 0, none⟩) 64 (List.replicate 64 z38) (some ⟨bA, 0, none⟩) 1 [alertA9] 0 0 [] [] 9 wn039 (c64_9 gM) (by simp) hCA (Nat.le_refl _) alive9_b).mono ?_
        rintro e w21 ⟨v21, u21, rfl, hR21, hS21, hB21⟩; refine ⟨_, rfl, ?_⟩; obtain ⟨A21, c21, rfl⟩ := Kd.R_slice hR21; obtain ⟨D21, d21, rfl⟩ := Kd.R_slice hS21; have g3 := g.trans (hB21.mono g.size); refine hK.out _ _ ⟨(blk_cell (blk_below HAc.out g3) 0), (blk_cell (blk_below HAc.out g3) 1), (blk_cell (blk_below HAc.out g3) 2), (blk_cell (blk_below HAc.out g3) 3)⟩ (fun hHeld => ?_); clear hK K; refine norm_ (a' := ?_) ?_ ?_; rotate_left
        · show Act.put _ (some 130) _ = _
          simp only [Act.put, List.setIfInBounds_toArray, List.set_cons_zero, List.set_cons_succ, i64_w, i32_w]; rfl
        refine pure_ (i := 5) (N := some 125) (v := ?_) (a' := ?_) #[true, true, true, true, true, true, false, false, false, true, false, false, false] rfl rfl (by kernel_rfl) (fun _ _ _ h => h) (Or.inl ⟨by rfl, ?_⟩) ?_ ?_; rotate_left
        · intro w'; go_simp
          with_reducible rfl
        rotate_left
        · simp only [Act.put, List.setIfInBounds_toArray, List.set_cons_zero, List.set_cons_succ, i64_w, i32_w]; rfl
        refine pure_ (i := 6) (N := some 131) (v := ?_) (a' := ?_) #[true, true, true, true, true, true, true, false, false, true, false, false, false] rfl rfl (by kernel_rfl) (fun _ _ _ h => h) (Or.inl ⟨by rfl, ?_⟩) ?_ ?_; rotate_left
        · intro w'; go_simp
          with_reducible rfl
        rotate_left
        · simp only [Act.put, List.setIfInBounds_toArray, List.set_cons_zero, List.set_cons_succ, i64_w, i32_w]; rfl
        refine pure_ (i := 7) (N := some 132) (v := ?_) (a' := ?_) #[true, true, true, true, true, true, true, true, false, true, false, false, false] rfl rfl (by kernel_rfl) (fun _ _ _ h => h) (Or.inl ⟨by rfl, ?_⟩) ?_ ?_; rotate_left
        · intro w'; go_simp
          with_reducible rfl
        rotate_left
        · simp only [Act.put, List.setIfInBounds_toArray, List.set_cons_zero, List.set_cons_succ, i64_w, i32_w]; rfl
        refine pure_ (i := 8) (N := some 133) (v := ?_) (a' := ?_) b10_11 rfl rfl (by kernel_rfl) (fun _ _ _ h => h) (Or.inl ⟨by rfl, ?_⟩) ?_ ?_; rotate_left
        · intro w'; go_simp
          with_reducible rfl
        rotate_left
        · simp only [Act.put, List.setIfInBounds_toArray, List.set_cons_zero, List.set_cons_succ, i64_w, i32_w]; rfl
        exact norm_ (by first | (simp only [putAll, Act.put, List.setIfInBounds_toArray, List.set_cons_zero, List.set_cons_succ]; done) | (simp only [putAll, Act.put, List.setIfInBounds_toArray, List.set_cons_zero, List.set_cons_succ]; rfl)) (hJ0_3_4_9 (bM, bA, bR, A21, c21, D21, d21) _ ⟨g3, blk_below gM hB21, blk_below gA hB21, ⟨blk_below gR.1 hB21, gR.2⟩⟩)
    · skip
      rintro ⟨bM, bA, bR, A21, c21, D21, d21⟩ wn034 ⟨g, gM, gA⟩; have hHeld : wn034.cell? ⟨w1.heap.size + 1 + 1, 0, none⟩ = some (.int .i64 1) ∧ wn034.cell? ⟨w1.heap.size + 1 + 1, 1, none⟩ = some (.int .i64 1) ∧ wn034.cell? ⟨w1.heap.size + 1 + 1, 2, none⟩ = some (.string ⟨#[114]⟩) ∧ wn034.cell? ⟨w1.heap.size + 1 + 1, 3, none⟩ = some (.string ⟨#[97]⟩) := ⟨blk_cell (blk_below HAc.out g) 0, blk_cell (blk_below HAc.out g) 1, blk_cell (blk_below HAc.out g) 2, blk_cell (blk_below HAc.out g) 3⟩; refine norm_ (a' := ?_) ?_ ?_; rotate_left
      · simp only [putAll, Act.put, List.setIfInBounds_toArray, List.set_cons_zero, List.set_cons_succ]; rfl
      refine one_ (i := 9) (N := some 11) b10_11 rfl rfl (by kernel_rfl) (by decide) (fun K hK => ?_); refine value_ (w1 := ?_) (v := ?_) (by rfl) rfl ?_ ?_; rotate_left 2
      · go_simp
        constructor
        · rfl
        · rfl
      refine hK.out _ _ ⟨(blk_cell (blk_below HAc.out (g.alloc g.size _)) 0), (blk_cell (blk_below HAc.out (g.alloc g.size _)) 1), (blk_cell (blk_below HAc.out (g.alloc g.size _)) 2), (blk_cell (blk_below HAc.out (g.alloc g.size _)) 3)⟩ (fun hHeld => ?_); clear hK K; refine norm_ (a' := ?_) ?_ ?_; rotate_left
      · show Act.put _ (some 11) _ = _
        simp only [Act.put, List.setIfInBounds_toArray, List.set_cons_zero, List.set_cons_succ, i64_w, i32_w]; rfl
      exact norm_ (by first | (simp only [putAll, Act.put, List.setIfInBounds_toArray, List.set_cons_zero, List.set_cons_succ]; done) | (simp only [putAll, Act.put, List.setIfInBounds_toArray, List.set_cons_zero, List.set_cons_succ]; rfl)) (hJ0_3_4_9 (bM, bA, wn034.heap.size, A21, c21, D21, d21) _ ⟨g.alloc g.size _, blk_alloc gM _, blk_alloc gA _, ⟨World.alloc_heap_new wn034 _, g.size⟩⟩)
  rintro ⟨bM, bA, bR, A21, c21, D21, d21⟩ wn0349 ⟨g, gM, gA, gR⟩; have hHeld : wn0349.cell? ⟨w1.heap.size + 1 + 1, 0, none⟩ = some (.int .i64 1) ∧ wn0349.cell? ⟨w1.heap.size + 1 + 1, 1, none⟩ = some (.int .i64 1) ∧ wn0349.cell? ⟨w1.heap.size + 1 + 1, 2, none⟩ = some (.string ⟨#[114]⟩) ∧ wn0349.cell? ⟨w1.heap.size + 1 + 1, 3, none⟩ = some (.string ⟨#[97]⟩) := ⟨blk_cell (blk_below HAc.out g) 0, blk_cell (blk_below HAc.out g) 1, blk_cell (blk_below HAc.out g) 2, blk_cell (blk_below HAc.out g) 3⟩; refine norm_ (a' := ?_) ?_ ?_; rotate_left
  · simp only [putAll, Act.put, List.setIfInBounds_toArray, List.set_cons_zero, List.set_cons_succ]; rfl
  refine last_ (i := 10) (N := none) #[true, true, true, true, true, true, true, true, true, true, true, false, false] rfl rfl (by kernel_rfl) (by decide) (fun K hK => ?_); have yr0 := blk_cell gR.1 0; have yr1 := blk_cell gR.1 1; have yr2 := blk_cell gR.1 2; have fr0 := blk_frozen gR.1 0; have fr1 := blk_frozen gR.1 1; have fr2 := blk_frozen gR.1 2; refine skip_ (w1 := ?_) (by rfl) rfl ?_ ?_; rotate_left
  · go_simp
    rfl
  refine hK.out _ _ ?_; clear hK K; refine pure_ (i := 11) (N := some 12) (v := ?_) (a' := ?_) #[true, true, true, true, true, true, true, true, true, true, true, true, false] rfl rfl (by kernel_rfl) (fun _ _ _ h => h) (Or.inl ⟨by rfl, ?_⟩) ?_ ?_; rotate_left
  · intro w'; go_simp
    with_reducible rfl
  rotate_left
  · simp only [Act.put, List.setIfInBounds_toArray, List.set_cons_zero, List.set_cons_succ, i64_w, i32_w]; rfl
  refine pure_ (i := 12) (N := some 13) (v := ?_) (a' := ?_) #[true, true, true, true, true, true, true, true, true, true, true, true, true] rfl rfl (by kernel_rfl) (fun _ _ _ h => h) (Or.inl ⟨by rfl, ?_⟩) ?_ ?_; rotate_left
  · intro w'; go_simp
    with_reducible rfl
  rotate_left
  · simp only [Act.put, List.setIfInBounds_toArray, List.set_cons_zero, List.set_cons_succ, i64_w, i32_w]; rfl
  refine done_ (by kernel_rfl) ?_; have hBz := HBEc.out.trans (g.mono HBEc.out.size); have HBz := Lib.hid hBz; clear hBz; have hle : w.heap.size ≤ bR := Nat.le_trans HBEc.out.size gR.2; have HBf := Lib.hid (((HBz.out.setCell (p := ⟨bR, 0, none⟩) hle (.int .i64 0)).setCell (p := ⟨bR, 1, none⟩) hle (.int .i64 0)).setCell (p := ⟨bR, 2, none⟩) hle (.slice A21 0 c21))
  go_wp2_with fail
  refine (notify_Right.calls 40 0 0 none 0 [] 0 0 none 0 [] none 0 [] false _ ⟨rfl, Nat.zero_le _, fun h => absurd h (Nat.lt_irrefl 0)⟩ (Nat.le_refl _) ⟨rfl, Nat.zero_le _, fun h => absurd h (Nat.lt_irrefl 0)⟩ (Nat.le_refl _) ⟨rfl, Nat.zero_le _, fun h => absurd h (Nat.lt_irrefl 0)⟩ (Nat.le_refl _) alive9_c).mono ?_; rintro e wf ⟨rfl, hBf⟩
  go_wp2
  go_ret
  exact ⟨rfl, HBf.out.trans (hBf.mono HBf.out.size)⟩


end Go.Proofs.Ytcoidmhdkhpalaa.PAll
