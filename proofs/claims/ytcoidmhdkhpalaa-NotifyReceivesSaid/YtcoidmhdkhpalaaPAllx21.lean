-- Written by this session's program hprint.py over the kit's print. Not trusted: Lean checks it.
import Derived.Test.YtcoidmhdkhpalaaPAllx0
import Derived.Test.YtcoidmhdkhpalaaPAllx18
import Derived.Test.YtcoidmhdkhpalaaPAllx19
import Derived.Test.YtcoidmhdkhpalaaPAllx20
namespace Go.Proofs.Ytcoidmhdkhpalaa.PAll
open Go.RowKit Go.Proofs.YtcoidmhdkhpalaaW.PrintWords Go.Proofs.YtcoidmhdkhpalaaW.PrintLast Go.Proofs.YtcoidmhdkhpalaaW.PrintMore
attribute [local go_sem] max2_int min2_int max_two min_two max_three min_three max_four min_four   -- for this text's walks alone
set_option linter.unusedVariables false
set_option linter.unusedSimpArgs false

/-! ### codesearchref49_Receive: function 16 -/
theorem z16_ {B : Nat} {w w' : World} (h : Below B w w' := by repeat (first | (with_reducible first | exact Aside0.out (by assumption) | apply below_alloc | apply pw_below_drewN | apply below_drew1 | refine below_set ?_ (Aside0.out (by assumption))) | exact Aside0.out (by assumption))) : Below B w w' := h
theorem r16_ {α : Type} {d : Kd α} {e base : Nat} {ok : Nat → Prop} {w w1 : World} {v : Value} {xs : List α} (h : d.R e w base ok v xs) (hb : Below w.heap.size w w1 := by (with_reducible repeat (first | apply below_alloc | apply pw_below_drewN | apply below_drew1)); exact Below.refl _ _) : d.R e w1 base ok v xs := Kd.R_below h hb
theorem k16_ {w w1 : World} {g : Nat} {o : Obj} (h : w.heap[g]? = some o) (hb : Below w.heap.size w w1 := by (with_reducible repeat (first | apply below_alloc | apply pw_below_drewN | apply below_drew1)); exact Below.refl _ _) : w1.heap[g]? = some o := blk_below h hb
abbrev b16_0 : Array Bool := #[false, false, false, false, false, false, false, false, false, false, false]
abbrev b16_1 : Array Bool := #[true, false, false, false, false, false, false, false, false, false, false]
abbrev b16_2 : Array Bool := #[true, false, true, false, false, false, false, false, false, false, false]
abbrev b16_3 : Array Bool := #[true, false, true, false, true, false, false, false, false, false, false]
abbrev b16_4 : Array Bool := #[true, true, true, false, true, false, false, false, false, false, false]
abbrev b16_5 : Array Bool := #[true, true, true, true, true, false, false, false, false, false, false]
abbrev b16_6 : Array Bool := #[true, true, true, true, true, true, false, false, false, false, false]
abbrev b16_7 : Array Bool := #[true, true, true, true, true, true, true, false, false, false, false]
abbrev b16_8 : Array Bool := #[true, true, true, true, true, true, true, true, false, false, false]
abbrev b16_9 : Array Bool := #[true, true, true, true, true, true, true, true, true, false, false]
abbrev b16_10 : Array Bool := #[true, true, true, true, true, true, true, true, true, true, false]
abbrev b16_11 : Array Bool := #[true, true, true, true, true, true, true, true, true, true, true]
abbrev b16_12 : Array Bool := #[false, false, false, false, false, false]
abbrev b16_13 : Array Bool := #[false, true, false, false, false, false]
abbrev b16_14 : Array Bool := #[true, true, false, false, false, false]
abbrev b16_15 : Array Bool := #[true, true, true, false, false, false]
abbrev b16_16 : Array Bool := #[true, true, true, true, false, false]
abbrev b16_17 : Array Bool := #[true, true, true, true, true, false]
abbrev b16_18 : Array Bool := #[true, true, true, true, true, true]
theorem q16_ {B : Nat} {w w' : World} (h : Below B w w') (n : Nat) : Below B w (w'.drewN n) := pw_below_drewN h n
theorem a16_ {p : Prop} (h : p) : Aside0 p := ⟨h⟩
theorem sT16_ {α : Type} (xs : List α) (i : Nat) (a : α) : xs.toArray.setIfInBounds i a = (xs.set i a).toArray := List.setIfInBounds_toArray xs i a
theorem sZ16_ {α : Type} (x a : α) (xs : List α) : (x :: xs).set 0 a = a :: xs := rfl
theorem sS16_ {α : Type} (x a : α) (xs : List α) (n : Nat) : (x :: xs).set (n + 1) a = x :: xs.set n a := rfl
mutual
def codesearchref49_Receive.l0 : Nat → Int → Int → Int → List (S36) → List (S38) → Int → Int → Int → Int → ByteArray → ByteArray → Int → Int → List (S36) → Option (Int × Int × (List (S36)) × (List (S38)) × Int)
  | 0, _, _, _, _, _, _, _, _, _, _, _, _, _, _ => none
  | k + 1, x7, x210000, x210001, x210002, x210003, x211000, x211001, x211002, x211003, x211004, x211005, x213000, x213001, x213002 => if x7 < (x210002.length : Int) then (if 0 ≤ x7 then (if x213002.length < 2932031007402 then (codesearchref49_Receive.l0 k (wrap64 (x7 + 1)) x210000 x210001 x210002 x210003 x211000 x211001 x211002 x211003 x211004 x211005 x213000 x213001 (x213002 ++ [(⟨(rd_T36 x210002 x7).f0, (rd_T36 x210002 x7).f1, (rd_T36 x210002 x7).f2, (rd_T36 x210002 x7).f3⟩ : S36)])) else (none)) else (none)) else (codesearchref49_Receive.l1 k 0 x210000 x210001 x210002 x210003 x211000 x211001 x211002 x211003 x211004 x211005 x213000 x213001 x213002 ([] : List (S38)))
def codesearchref49_Receive.l1 : Nat → Int → Int → Int → List (S36) → List (S38) → Int → Int → Int → Int → ByteArray → ByteArray → Int → Int → List (S36) → List (S38) → Option (Int × Int × (List (S36)) × (List (S38)) × Int)
  | 0, _, _, _, _, _, _, _, _, _, _, _, _, _, _, _ => none
  | k + 1, x8, x210000, x210001, x210002, x210003, x211000, x211001, x211002, x211003, x211004, x211005, x213000, x213001, x213002, x213003 => if x8 < (x210003.length : Int) then (if 0 ≤ x8 then (if x213003.length < 2199023255552 then (codesearchref49_Receive.l1 k (wrap64 (x8 + 1)) x210000 x210001 x210002 x210003 x211000 x211001 x211002 x211003 x211004 x211005 x213000 x213001 x213002 (x213003 ++ [(⟨(rd_T38 x210003 x8).f0, (rd_T38 x210003 x8).f1, (⟨(rd_T38 x210003 x8).f2.f0, (rd_T38 x210003 x8).f2.f1, (rd_T38 x210003 x8).f2.f2, (rd_T38 x210003 x8).f2.f3⟩ : S36)⟩ : S38)])) else (none)) else (none)) else (if x211000 = x210000 then (codesearchref49_Receive.j2 k (decide (x211001 < x210001)) x210000 x210001 x210002 x210003 x211000 x211001 x211002 x211003 x211004 x211005 x213000 x213001 x213002 x213003) else (codesearchref49_Receive.j2 k true x210000 x210001 x210002 x210003 x211000 x211001 x211002 x211003 x211004 x211005 x213000 x213001 x213002 x213003))
def codesearchref49_Receive.j2 : Nat → Bool → Int → Int → List (S36) → List (S38) → Int → Int → Int → Int → ByteArray → ByteArray → Int → Int → List (S36) → List (S38) → Option (Int × Int × (List (S36)) × (List (S38)) × Int)
  | 0, _, _, _, _, _, _, _, _, _, _, _, _, _, _, _ => none
  | k + 1, x60, x210000, x210001, x210002, x210003, x211000, x211001, x211002, x211003, x211004, x211005, x213000, x213001, x213002, x213003 => if x60 = true then (some (x213000, x213001, x213002, x213003, wrap64 (x213001 - 1))) else (if x211001 > x210001 then ((codesearchref49_waits.f k x213003 x211001).bind fun t221 => (if t221 < 0 then ((codesearchref49_put.f k x213003 x211000 x211001 x211002 x211003 x211004 x211005).bind fun t222 => (some (x213000, x213001, x213002, t222, wrap64 (x213001 - 1)))) else (some (x213000, x213001, x213002, x213003, wrap64 (x213001 - 1))))) else (if x213002.length < 2932031007402 then ((codesearchref49_waits.f k x213003 (wrap64 (x213001 + 1))).bind fun t228 => (codesearchref49_Receive.l2 k t228 x213000 (wrap64 (x213001 + 1)) (x213002 ++ [(⟨x211002, x211003, x211004, x211005⟩ : S36)]) x213003)) else (none)))
def codesearchref49_Receive.l2 : Nat → Int → Int → Int → List (S36) → List (S38) → Option (Int × Int × (List (S36)) × (List (S38)) × Int)
  | 0, _, _, _, _, _ => none
  | k + 1, x9, x213000, x213001, x213002, x213003 => if x9 ≥ 0 then (if 0 ≤ x9 then (if x9 < (x213003.length : Int) then (if x213002.length < 2932031007402 then ((codesearchref49_without.f k x213003 x9).bind fun t233 => ((codesearchref49_waits.f k t233 (wrap64 (x213001 + 1))).bind fun t236 => (codesearchref49_Receive.l2 k t236 x213000 (wrap64 (x213001 + 1)) (x213002 ++ [(⟨(rd_T38 x213003 x9).f2.f0, (rd_T38 x213003 x9).f2.f1, (rd_T38 x213003 x9).f2.f2, (rd_T38 x213003 x9).f2.f3⟩ : S36)]) t233))) else (none)) else (none)) else (none)) else (some (x213000, x213001, x213002, x213003, wrap64 (x213001 - 1)))
end
def codesearchref49_Receive.f (k : Nat) (a0_0 : Int) (a0_1 : Int) (l0_2 : List (S36)) (l0_3 : List (S38)) (a1_0 : Int) (a1_1 : Int) (a1_2 : Int) (a1_3 : Int) (a1_4 : ByteArray) (a1_5 : ByteArray) : Option (Int × Int × (List (S36)) × (List (S38)) × Int) := codesearchref49_Receive.l0 k 0 a0_0 a0_1 l0_2 l0_3 a1_0 a1_1 a1_2 a1_3 a1_4 a1_5 a0_0 a0_1 ([] : List (S36))
theorem codesearchref49_Receive.mono_l : ∀ k, (∀ y0 y1 y2 y3 y4 y5 y6 y7 y8 y9 y10 y11 y12 y13, LeO (codesearchref49_Receive.l0 k y0 y1 y2 y3 y4 y5 y6 y7 y8 y9 y10 y11 y12 y13) (codesearchref49_Receive.l0 (k + 1) y0 y1 y2 y3 y4 y5 y6 y7 y8 y9 y10 y11 y12 y13)) ∧ (∀ y0 y1 y2 y3 y4 y5 y6 y7 y8 y9 y10 y11 y12 y13 y14, LeO (codesearchref49_Receive.l1 k y0 y1 y2 y3 y4 y5 y6 y7 y8 y9 y10 y11 y12 y13 y14) (codesearchref49_Receive.l1 (k + 1) y0 y1 y2 y3 y4 y5 y6 y7 y8 y9 y10 y11 y12 y13 y14)) ∧ (∀ y0 y1 y2 y3 y4 y5 y6 y7 y8 y9 y10 y11 y12 y13 y14, LeO (codesearchref49_Receive.j2 k y0 y1 y2 y3 y4 y5 y6 y7 y8 y9 y10 y11 y12 y13 y14) (codesearchref49_Receive.j2 (k + 1) y0 y1 y2 y3 y4 y5 y6 y7 y8 y9 y10 y11 y12 y13 y14)) ∧ (∀ y0 y1 y2 y3 y4, LeO (codesearchref49_Receive.l2 k y0 y1 y2 y3 y4) (codesearchref49_Receive.l2 (k + 1) y0 y1 y2 y3 y4))
  | 0 => ⟨fun _ _ _ _ _ _ _ _ _ _ _ _ _ _ r h => by simp [codesearchref49_Receive.l0] at h, fun _ _ _ _ _ _ _ _ _ _ _ _ _ _ _ r h => by simp [codesearchref49_Receive.l1] at h, fun _ _ _ _ _ _ _ _ _ _ _ _ _ _ _ r h => by simp [codesearchref49_Receive.j2] at h, fun _ _ _ _ _ r h => by simp [codesearchref49_Receive.l2] at h⟩
  | k + 1 => by
    obtain ⟨ih0, ih1, ih2, ih3⟩ := codesearchref49_Receive.mono_l k
    refine ⟨?_, ?_, ?_, ?_⟩
    · intro y0 y1 y2 y3 y4 y5 y6 y7 y8 y9 y10 y11 y12 y13
      unfold codesearchref49_Receive.l0
      repeat' first
      | (with_reducible exact ih0 _ _ _ _ _ _ _ _ _ _ _ _ _ _)
      | (with_reducible exact ih1 _ _ _ _ _ _ _ _ _ _ _ _ _ _ _)
      | (with_reducible exact ih2 _ _ _ _ _ _ _ _ _ _ _ _ _ _ _)
      | (with_reducible exact ih3 _ _ _ _ _)
      | (with_reducible exact LeO.refl _)
      | (with_reducible exact LeO.none _)
      | (with_reducible refine LeO.ite ?_ ?_)
      | (with_reducible refine LeO.bind ?_ (fun _ => ?_))
      | exact ih0 _ _ _ _ _ _ _ _ _ _ _ _ _ _
      | exact ih1 _ _ _ _ _ _ _ _ _ _ _ _ _ _ _
      | exact ih2 _ _ _ _ _ _ _ _ _ _ _ _ _ _ _
      | exact ih3 _ _ _ _ _
      | exact codesearchref49_put.mono _ _ _ _ _ _ _ _
      | exact codesearchref49_waits.mono _ _ _
      | exact codesearchref49_without.mono _ _ _
      | exact LeO.none _
      | refine LeO.ite ?_ ?_
      | refine LeO.bind ?_ (fun _ => ?_)
    · intro y0 y1 y2 y3 y4 y5 y6 y7 y8 y9 y10 y11 y12 y13 y14
      unfold codesearchref49_Receive.l1
      repeat' first
      | (with_reducible exact ih0 _ _ _ _ _ _ _ _ _ _ _ _ _ _)
      | (with_reducible exact ih1 _ _ _ _ _ _ _ _ _ _ _ _ _ _ _)
      | (with_reducible exact ih2 _ _ _ _ _ _ _ _ _ _ _ _ _ _ _)
      | (with_reducible exact ih3 _ _ _ _ _)
      | (with_reducible exact LeO.refl _)
      | (with_reducible exact LeO.none _)
      | (with_reducible refine LeO.ite ?_ ?_)
      | (with_reducible refine LeO.bind ?_ (fun _ => ?_))
      | exact ih0 _ _ _ _ _ _ _ _ _ _ _ _ _ _
      | exact ih1 _ _ _ _ _ _ _ _ _ _ _ _ _ _ _
      | exact ih2 _ _ _ _ _ _ _ _ _ _ _ _ _ _ _
      | exact ih3 _ _ _ _ _
      | exact codesearchref49_put.mono _ _ _ _ _ _ _ _
      | exact codesearchref49_waits.mono _ _ _
      | exact codesearchref49_without.mono _ _ _
      | exact LeO.none _
      | refine LeO.ite ?_ ?_
      | refine LeO.bind ?_ (fun _ => ?_)
    · intro y0 y1 y2 y3 y4 y5 y6 y7 y8 y9 y10 y11 y12 y13 y14
      unfold codesearchref49_Receive.j2
      repeat' first
      | (with_reducible exact ih0 _ _ _ _ _ _ _ _ _ _ _ _ _ _)
      | (with_reducible exact ih1 _ _ _ _ _ _ _ _ _ _ _ _ _ _ _)
      | (with_reducible exact ih2 _ _ _ _ _ _ _ _ _ _ _ _ _ _ _)
      | (with_reducible exact ih3 _ _ _ _ _)
      | (with_reducible exact LeO.refl _)
      | (with_reducible exact LeO.none _)
      | (with_reducible refine LeO.ite ?_ ?_)
      | (with_reducible refine LeO.bind ?_ (fun _ => ?_))
      | exact ih0 _ _ _ _ _ _ _ _ _ _ _ _ _ _
      | exact ih1 _ _ _ _ _ _ _ _ _ _ _ _ _ _ _
      | exact ih2 _ _ _ _ _ _ _ _ _ _ _ _ _ _ _
      | exact ih3 _ _ _ _ _
      | exact codesearchref49_put.mono _ _ _ _ _ _ _ _
      | exact codesearchref49_waits.mono _ _ _
      | exact codesearchref49_without.mono _ _ _
      | exact LeO.none _
      | refine LeO.ite ?_ ?_
      | refine LeO.bind ?_ (fun _ => ?_)
    · intro y0 y1 y2 y3 y4
      unfold codesearchref49_Receive.l2
      repeat' first
      | (with_reducible exact ih0 _ _ _ _ _ _ _ _ _ _ _ _ _ _)
      | (with_reducible exact ih1 _ _ _ _ _ _ _ _ _ _ _ _ _ _ _)
      | (with_reducible exact ih2 _ _ _ _ _ _ _ _ _ _ _ _ _ _ _)
      | (with_reducible exact ih3 _ _ _ _ _)
      | (with_reducible exact LeO.refl _)
      | (with_reducible exact LeO.none _)
      | (with_reducible refine LeO.ite ?_ ?_)
      | (with_reducible refine LeO.bind ?_ (fun _ => ?_))
      | exact ih0 _ _ _ _ _ _ _ _ _ _ _ _ _ _
      | exact ih1 _ _ _ _ _ _ _ _ _ _ _ _ _ _ _
      | exact ih2 _ _ _ _ _ _ _ _ _ _ _ _ _ _ _
      | exact ih3 _ _ _ _ _
      | exact codesearchref49_put.mono _ _ _ _ _ _ _ _
      | exact codesearchref49_waits.mono _ _ _
      | exact codesearchref49_without.mono _ _ _
      | exact LeO.none _
      | refine LeO.ite ?_ ?_
      | refine LeO.bind ?_ (fun _ => ?_)
theorem codesearchref49_Receive.mono : ∀ a0 a1 a2 a3 a4 a5 a6 a7 a8 a9 k, LeO (codesearchref49_Receive.f k a0 a1 a2 a3 a4 a5 a6 a7 a8 a9) (codesearchref49_Receive.f (k + 1) a0 a1 a2 a3 a4 a5 a6 a7 a8 a9) := by
  intro a0 a1 a2 a3 a4 a5 a6 a7 a8 a9 k
  obtain ⟨ih0, ih1, ih2, ih3⟩ := codesearchref49_Receive.mono_l k
  unfold codesearchref49_Receive.f
  repeat' first
      | (with_reducible exact ih0 _ _ _ _ _ _ _ _ _ _ _ _ _ _)
      | (with_reducible exact ih1 _ _ _ _ _ _ _ _ _ _ _ _ _ _ _)
      | (with_reducible exact ih2 _ _ _ _ _ _ _ _ _ _ _ _ _ _ _)
      | (with_reducible exact ih3 _ _ _ _ _)
      | (with_reducible exact LeO.refl _)
      | (with_reducible exact LeO.none _)
      | (with_reducible refine LeO.ite ?_ ?_)
      | (with_reducible refine LeO.bind ?_ (fun _ => ?_))
      | exact ih0 _ _ _ _ _ _ _ _ _ _ _ _ _ _
      | exact ih1 _ _ _ _ _ _ _ _ _ _ _ _ _ _ _
      | exact ih2 _ _ _ _ _ _ _ _ _ _ _ _ _ _ _
      | exact ih3 _ _ _ _ _
      | exact codesearchref49_put.mono _ _ _ _ _ _ _ _
      | exact codesearchref49_waits.mono _ _ _
      | exact codesearchref49_without.mono _ _ _
      | exact LeO.none _
      | refine LeO.ite ?_ ?_
      | refine LeO.bind ?_ (fun _ => ?_)
def codesearchref49_Receive.T5 : Bool × List (List Nat × List Nat) := (true, [([], []), ([0], [0]), ([], []), ([2], [2]), ([], []), ([3, 4], [3, 4]), ([5], [5]), ([6], [6]), ([1, 7], [1, 7]), ([0, 1, 2, 3, 4, 5, 6, 7, 8], []), ([9, 8, 8, 0, 1, 2, 3, 4, 5, 6, 7, 8], [8, 9])])
def codesearchref49_Receive.B5 : List Nat := [0, 1, 0, 4, 0, 28, 60, 124, 255, 511, 1023]
theorem codesearchref49_Receive.tab5 : rtab .any (opsOf Try.f16 5) = codesearchref49_Receive.T5 := by kernel_rfl
theorem codesearchref49_Receive.bits5 : waitsOk codesearchref49_Receive.T5.2 codesearchref49_Receive.B5 = true := by kernel_rfl
def codesearchref49_Receive.T9 : Bool × List (List Nat × List Nat) := (true, [([], []), ([0], [0]), ([], []), ([2], [2]), ([], []), ([3, 4], [3, 4]), ([5], [5]), ([6], [6]), ([1, 7], [1, 7]), ([0, 1, 2, 3, 4, 5, 6, 7, 8], []), ([9, 8, 8, 0, 1, 2, 3, 4, 5, 6, 7, 8], [8, 9])])
def codesearchref49_Receive.B9 : List Nat := [0, 1, 0, 4, 0, 28, 60, 124, 255, 511, 1023]
theorem codesearchref49_Receive.tab9 : rtab .any (opsOf Try.f16 9) = codesearchref49_Receive.T9 := by kernel_rfl
theorem codesearchref49_Receive.bits9 : waitsOk codesearchref49_Receive.T9.2 codesearchref49_Receive.B9 = true := by kernel_rfl
def codesearchref49_Receive.T20 : Bool × List (List Nat × List Nat) := (true, [([], []), ([0], [0]), ([], []), ([2], [2]), ([], []), ([3, 4], [3, 4]), ([5], [5]), ([6], [6]), ([7], [7]), ([1, 8], [1, 8]), ([0, 1, 2, 3, 4, 5, 6, 7, 8, 9], []), ([10, 9, 9, 0, 1, 2, 3, 4, 5, 6, 7, 8, 9], [9, 10])])
def codesearchref49_Receive.B20 : List Nat := [0, 1, 0, 4, 0, 28, 60, 124, 252, 511, 1023, 2047]
theorem codesearchref49_Receive.tab20 : rtab .any (opsOf Try.f16 20) = codesearchref49_Receive.T20 := by kernel_rfl
theorem codesearchref49_Receive.bits20 : waitsOk codesearchref49_Receive.T20.2 codesearchref49_Receive.B20 = true := by kernel_rfl
set_option maxHeartbeats 8000000 in
set_option maxRecDepth 100000 in
theorem codesearchref49_Receive.calls (k : Nat) (a0_0 : Int) (a0_1 : Int) (A0_2 : Option Addr) (c0_2 : Nat) (l0_2 : List (S36)) (A0_3 : Option Addr) (c0_3 : Nat) (l0_3 : List (S38)) (a1_0 : Int) (a1_1 : Int) (a1_2 : Int) (a1_3 : Int) (a1_4 : ByteArray) (a1_5 : ByteArray) (r1 : Int) (r2 : Int) (r3 : List (S36)) (r4 : List (S38)) (r5 : Int) (w : World) (hr0_2 : Kd.C k36 w A0_2 l0_2.length l0_2) (hc0_2 : l0_2.length ≤ c0_2) (hr0_3 : Kd.C k38 w A0_3 l0_3.length l0_3) (hc0_3 : l0_3.length ≤ c0_3) (h : codesearchref49_Receive.f k a0_0 a0_1 l0_2 l0_3 a1_0 a1_1 a1_2 a1_3 a1_4 a1_5 = some (r1, r2, r3, r4, r5)) :
    Calls Try.prog 16 #[.agg #[.int .i64 a0_0, .int .i64 a0_1, .slice A0_2 l0_2.length c0_2, .slice A0_3 l0_3.length c0_3], .agg #[.int .i64 a1_0, .int .i64 a1_1, .int .i64 a1_2, .int .i64 a1_3, .string a1_4, .string a1_5]] w fun e w' => ∃ v2_ v3_ : Value, e = .returned (.tuple #[.agg #[.int .i64 r1, .int .i64 r2, v2_, v3_], .int .i64 r5]) ∧ Kd.R k36 36 w' w.heap.size (fun _ => True) v2_ r3 ∧ Kd.R k38 38 w' w.heap.size (fun _ => True) v3_ r4 ∧ Below w.heap.size w w' := by
  have hu34 := Try.underlying34; have hu38 := Try.underlying38; have hu36 := Try.underlying36; have HR0_2 := a16_ hr0_2; have HC0_2 := a16_ hc0_2; clear hr0_2 hc0_2; have HR0_3 := a16_ hr0_3; have HC0_3 := a16_ hc0_3; clear hr0_3 hc0_3; have HB := a16_ (Below.refl w.heap.size w); have H : (codesearchref49_Receive.l0 k 0 a0_0 a0_1 l0_2 l0_3 a1_0 a1_1 a1_2 a1_3 a1_4 a1_5 a0_0 a0_1 ([] : List (S36))) = some (r1, r2, r3, r4, r5) := h; clear h; have H' := a16_ H; clear H
  go_enter Try.func16, Try.ntmps16
  go_wp2_with (first | ((with_reducible refine gate_dst (N := 2) rfl ?_); refine box_event ?hg (N := 2) ?hd (cs := #[.int .i64 a0_0, .int .i64 a0_1, .slice A0_2 l0_2.length c0_2, .slice A0_3 l0_3.length c0_3]) (t := 34) ?hr ?_; (case hd => rfl); (case hg => rfl); (case hr => first | (go_simp; done) | (go_simp; rfl)); intro gb209 hg w3 hbox hb; have BK209 := a16_ (hbox); have GW209 := a16_ ((by rw [hg]; exact (below_size z16_) : w.heap.size ≤ gb209)); have GE209 := a16_ ((by rw [hg]; exact (below_size z16_) : w.heap.size ≤ gb209)); replace HB := a16_ (below_step z16_ hb); clear hb hbox hg) | ((with_reducible refine gate_dst (N := 3) rfl ?_); refine box_event ?hg (N := 3) ?hd (cs := #[.int .i64 a1_0, .int .i64 a1_1, .int .i64 a1_2, .int .i64 a1_3, .string a1_4, .string a1_5]) (t := 38) ?hr ?_; (case hd => rfl); (case hg => rfl); (case hr => first | (go_simp; done) | (go_simp; rfl)); intro gb210 hg w4 hbox hb; have BK210 := a16_ (hbox); have GW210 := a16_ ((by rw [hg]; exact (below_size z16_) : w.heap.size ≤ gb210)); have GE210 := a16_ ((by rw [hg]; exact (below_size z16_) : w.heap.size ≤ gb210)); replace HB := a16_ (below_step z16_ hb); have NB209_210 := a16_ ((by rw [hg]; exact Nat.ne_of_lt (blk_lt (g := gb209) (o := .cells #[.int .i64 a0_0, .int .i64 a0_1, .slice A0_2 l0_2.length c0_2, .slice A0_3 l0_3.length c0_3] 34 (0, 0)) (k16_ BK209.out)) : gb209 ≠ gb210)); have NB210_209 := a16_ ((by rw [hg]; exact Nat.ne_of_gt (blk_lt (g := gb209) (o := .cells #[.int .i64 a0_0, .int .i64 a0_1, .slice A0_2 l0_2.length c0_2, .slice A0_3 l0_3.length c0_3] 34 (0, 0)) (k16_ BK209.out)) : gb210 ≠ gb209)); replace BK209 := a16_ (blk_below (k16_ BK209.out) hb); clear hb hbox hg) | ((with_reducible refine gate_dst (N := 4) rfl ?_); refine box_event ?hg (N := 4) ?hd (cs := #[.int .i64 0, .int .i64 0, .slice none 0 0, .slice none 0 0]) (t := 34) ?hr ?_; (case hd => rfl); (case hg => rfl); (case hr => first | (go_simp; done) | (go_simp; rfl)); intro gb211 hg w5 hbox hb; have BK211 := a16_ (hbox); have GW211 := a16_ ((by rw [hg]; exact (below_size z16_) : w.heap.size ≤ gb211)); have GE211 := a16_ ((by rw [hg]; exact (below_size z16_) : w.heap.size ≤ gb211)); replace HB := a16_ (below_step z16_ hb); have NB209_211 := a16_ ((by rw [hg]; exact Nat.ne_of_lt (blk_lt (g := gb209) (o := .cells #[.int .i64 a0_0, .int .i64 a0_1, .slice A0_2 l0_2.length c0_2, .slice A0_3 l0_3.length c0_3] 34 (0, 0)) (k16_ BK209.out)) : gb209 ≠ gb211)); have NB211_209 := a16_ ((by rw [hg]; exact Nat.ne_of_gt (blk_lt (g := gb209) (o := .cells #[.int .i64 a0_0, .int .i64 a0_1, .slice A0_2 l0_2.length c0_2, .slice A0_3 l0_3.length c0_3] 34 (0, 0)) (k16_ BK209.out)) : gb211 ≠ gb209)); replace BK209 := a16_ (blk_below (k16_ BK209.out) hb); have NB210_211 := a16_ ((by rw [hg]; exact Nat.ne_of_lt (blk_lt (g := gb210) (o := .cells #[.int .i64 a1_0, .int .i64 a1_1, .int .i64 a1_2, .int .i64 a1_3, .string a1_4, .string a1_5] 38 (0, 0)) (k16_ BK210.out)) : gb210 ≠ gb211)); have NB211_210 := a16_ ((by rw [hg]; exact Nat.ne_of_gt (blk_lt (g := gb210) (o := .cells #[.int .i64 a1_0, .int .i64 a1_1, .int .i64 a1_2, .int .i64 a1_3, .string a1_4, .string a1_5] 38 (0, 0)) (k16_ BK210.out)) : gb211 ≠ gb210)); replace BK210 := a16_ (blk_below (k16_ BK210.out) hb); clear hb hbox hg; have hnb6 := NB209_210.out; have hnc6 := NB210_209.out; have hnb7 := NB209_211.out; have hnc7 := NB211_209.out; have hcz8_0 : w5.cell? ⟨gb209, 0, none⟩ = some (.int .i64 a0_0) := (blk_cell BK209.out 0).trans rfl; have hcz8_1 : w5.cell? ⟨gb209, 1, none⟩ = some (.int .i64 a0_1) := (blk_cell BK209.out 1).trans rfl; have hcz8_2 : w5.cell? ⟨gb209, 2, none⟩ = some (.slice A0_2 l0_2.length c0_2) := (blk_cell BK209.out 2).trans rfl; have hcz8_3 : w5.cell? ⟨gb209, 3, none⟩ = some (.slice A0_3 l0_3.length c0_3) := (blk_cell BK209.out 3).trans rfl; have hfz8_0 := blk_frozen BK209.out 0; have hfz8_1 := blk_frozen BK209.out 1; have hfz8_2 := blk_frozen BK209.out 2; have hfz8_3 := blk_frozen BK209.out 3) | ((with_reducible refine gate_dst (N := 6) rfl ?_); refine box_event ?hg (N := 6) ?hd (cs := #[.int .i64 0, .int .i64 0, .slice none 0 0, .slice none 0 0]) (t := 34) ?hr ?_; (case hd => rfl); (case hg => rfl); (case hr => first | (go_simp; done) | (go_simp; rfl)); intro gb212 hg w9 hbox hb; have BK212 := a16_ (hbox); have GW212 := a16_ ((by rw [hg]; exact (below_size z16_) : w.heap.size ≤ gb212)); have GE212 := a16_ ((by rw [hg]; exact (below_size z16_) : w.heap.size ≤ gb212)); replace HB := a16_ (below_step z16_ hb); have NB209_212 := a16_ ((by rw [hg]; exact Nat.ne_of_lt (blk_lt (g := gb209) (o := .cells #[.int .i64 a0_0, .int .i64 a0_1, .slice A0_2 l0_2.length c0_2, .slice A0_3 l0_3.length c0_3] 34 (0, 0)) (k16_ BK209.out)) : gb209 ≠ gb212)); have NB212_209 := a16_ ((by rw [hg]; exact Nat.ne_of_gt (blk_lt (g := gb209) (o := .cells #[.int .i64 a0_0, .int .i64 a0_1, .slice A0_2 l0_2.length c0_2, .slice A0_3 l0_3.length c0_3] 34 (0, 0)) (k16_ BK209.out)) : gb212 ≠ gb209)); replace BK209 := a16_ (blk_below (k16_ BK209.out) hb); have NB210_212 := a16_ ((by rw [hg]; exact Nat.ne_of_lt (blk_lt (g := gb210) (o := .cells #[.int .i64 a1_0, .int .i64 a1_1, .int .i64 a1_2, .int .i64 a1_3, .string a1_4, .string a1_5] 38 (0, 0)) (k16_ BK210.out)) : gb210 ≠ gb212)); have NB212_210 := a16_ ((by rw [hg]; exact Nat.ne_of_gt (blk_lt (g := gb210) (o := .cells #[.int .i64 a1_0, .int .i64 a1_1, .int .i64 a1_2, .int .i64 a1_3, .string a1_4, .string a1_5] 38 (0, 0)) (k16_ BK210.out)) : gb212 ≠ gb210)); replace BK210 := a16_ (blk_below (k16_ BK210.out) hb); have NB211_212 := a16_ ((by rw [hg]; exact Nat.ne_of_lt (blk_lt (g := gb211) (o := .cells #[.int .i64 0, .int .i64 0, .slice none 0 0, .slice none 0 0] 34 (0, 0)) (k16_ BK211.out)) : gb211 ≠ gb212)); have NB212_211 := a16_ ((by rw [hg]; exact Nat.ne_of_gt (blk_lt (g := gb211) (o := .cells #[.int .i64 0, .int .i64 0, .slice none 0 0, .slice none 0 0] 34 (0, 0)) (k16_ BK211.out)) : gb212 ≠ gb211)); replace BK211 := a16_ (blk_below (k16_ BK211.out) hb); clear hb hbox hg; have hnb10 := NB212_209.out; have hnc10 := NB209_212.out; have hnb11 := NB212_210.out; have hnc11 := NB210_212.out; have hnb12 := NB212_211.out; have hnc12 := NB211_212.out; have hcz13_0 : w9.cell? ⟨gb212, 0, none⟩ = some (.int .i64 0) := (blk_cell BK212.out 0).trans rfl; have hcz13_1 : w9.cell? ⟨gb212, 1, none⟩ = some (.int .i64 0) := (blk_cell BK212.out 1).trans rfl; have hcz13_2 : w9.cell? ⟨gb212, 2, none⟩ = some (.slice none 0 0) := (blk_cell BK212.out 2).trans rfl; have hcz13_3 : w9.cell? ⟨gb212, 3, none⟩ = some (.slice none 0 0) := (blk_cell BK212.out 3).trans rfl; have hfz13_0 := blk_frozen BK212.out 0; have hfz13_1 := blk_frozen BK212.out 1; have hfz13_2 := blk_frozen BK212.out 2; have hfz13_3 := blk_frozen BK212.out 3))
  go_loopg [7] k (fun kq v7 w' => ∃ (x7_1 : Int) (x213002_1 : List (S36)) (u213002 : Value), v7 = .int .i64 x7_1 ∧ Aside0 (codesearchref49_Receive.l0 kq x7_1 a0_0 a0_1 l0_2 l0_3 a1_0 a1_1 a1_2 a1_3 a1_4 a1_5 a0_0 a0_1 x213002_1 = some (r1, r2, r3, r4, r5)) ∧ Aside0 (kq ≤ k) ∧ Aside0 (Kd.R k36 36 w' w.heap.size (fun _ => True) u213002 x213002_1) ∧ Aside0 (w'.heap[gb209]? = some (.cells #[.int .i64 a0_0, .int .i64 a0_1, (.slice A0_2 l0_2.length c0_2), (.slice A0_3 l0_3.length c0_3)] 34 (0, 0))) ∧ Aside0 (w'.heap[gb210]? = some (.cells #[.int .i64 a1_0, .int .i64 a1_1, .int .i64 a1_2, .int .i64 a1_3, .string a1_4, .string a1_5] 38 (0, 0))) ∧ Aside0 (w'.heap[gb211]? = some (.cells #[.int .i64 0, .int .i64 0, (.slice none 0 0), (.slice none 0 0)] 34 (0, 0))) ∧ Aside0 (w'.heap[gb212]? = some (.cells #[.int .i64 a0_0, .int .i64 a0_1, u213002, (.slice none 0 0)] 34 (0, 0))) ∧ Aside0 (Below w.heap.size w w'))
  case atStart => exact ⟨(0), (([] : List (S36))), (.slice none 0 0), (by first | rfl | (simp; done) | (simp [*]; done)), H', ⟨Nat.le_refl _⟩, ⟨by first | exact Kd.R_nil _ _ _ _ _ | exact Kd.N_nil _ _ _ _ _ | exact Kd.V_nil _ _ _ _ _ | exact Kd.Q_nil _ _ _ _ _ | exact Kd.S_nil _ _ _ _ _⟩, ⟨by (with_reducible repeat (first | refine blk_drewN ?_ _ | refine blk_drew ?_ | refine blk_alloc ?_ _)); refine blk_far ?_ NB209_212.out _; (with_reducible repeat (first | refine blk_drewN ?_ _ | refine blk_drew ?_ | refine blk_alloc ?_ _)); refine blk_far ?_ NB209_212.out _; (with_reducible repeat (first | refine blk_drewN ?_ _ | refine blk_drew ?_ | refine blk_alloc ?_ _)); refine blk_far ?_ NB209_212.out _; (with_reducible repeat (first | refine blk_drewN ?_ _ | refine blk_drew ?_ | refine blk_alloc ?_ _)); refine blk_far ?_ NB209_212.out _; (with_reducible repeat (first | refine blk_drewN ?_ _ | refine blk_drew ?_ | refine blk_alloc ?_ _)); exact BK209.out⟩, ⟨by (with_reducible repeat (first | refine blk_drewN ?_ _ | refine blk_drew ?_ | refine blk_alloc ?_ _)); refine blk_far ?_ NB210_212.out _; (with_reducible repeat (first | refine blk_drewN ?_ _ | refine blk_drew ?_ | refine blk_alloc ?_ _)); refine blk_far ?_ NB210_212.out _; (with_reducible repeat (first | refine blk_drewN ?_ _ | refine blk_drew ?_ | refine blk_alloc ?_ _)); refine blk_far ?_ NB210_212.out _; (with_reducible repeat (first | refine blk_drewN ?_ _ | refine blk_drew ?_ | refine blk_alloc ?_ _)); refine blk_far ?_ NB210_212.out _; (with_reducible repeat (first | refine blk_drewN ?_ _ | refine blk_drew ?_ | refine blk_alloc ?_ _)); exact BK210.out⟩, ⟨by (with_reducible repeat (first | refine blk_drewN ?_ _ | refine blk_drew ?_ | refine blk_alloc ?_ _)); refine blk_far ?_ NB211_212.out _; (with_reducible repeat (first | refine blk_drewN ?_ _ | refine blk_drew ?_ | refine blk_alloc ?_ _)); refine blk_far ?_ NB211_212.out _; (with_reducible repeat (first | refine blk_drewN ?_ _ | refine blk_drew ?_ | refine blk_alloc ?_ _)); refine blk_far ?_ NB211_212.out _; (with_reducible repeat (first | refine blk_drewN ?_ _ | refine blk_drew ?_ | refine blk_alloc ?_ _)); refine blk_far ?_ NB211_212.out _; (with_reducible repeat (first | refine blk_drewN ?_ _ | refine blk_drew ?_ | refine blk_alloc ?_ _)); exact BK211.out⟩, ⟨by (with_reducible repeat (first | refine blk_drewN ?_ _ | refine blk_drew ?_ | refine blk_alloc ?_ _)); refine blk_put (cs := #[.int .i64 a0_0, .int .i64 a0_1, .slice none 0 0, .slice none 0 0]) ?_ 3 _ rfl; (with_reducible repeat (first | refine blk_drewN ?_ _ | refine blk_drew ?_ | refine blk_alloc ?_ _)); refine blk_put (cs := #[.int .i64 a0_0, .int .i64 a0_1, .slice none 0 0, .slice none 0 0]) ?_ 2 _ rfl; (with_reducible repeat (first | refine blk_drewN ?_ _ | refine blk_drew ?_ | refine blk_alloc ?_ _)); refine blk_put (cs := #[.int .i64 a0_0, .int .i64 0, .slice none 0 0, .slice none 0 0]) ?_ 1 _ rfl; (with_reducible repeat (first | refine blk_drewN ?_ _ | refine blk_drew ?_ | refine blk_alloc ?_ _)); refine blk_put (cs := #[.int .i64 0, .int .i64 0, .slice none 0 0, .slice none 0 0]) ?_ 0 _ rfl; (with_reducible repeat (first | refine blk_drewN ?_ _ | refine blk_drew ?_ | refine blk_alloc ?_ _)); exact BK212.out⟩, ⟨by repeat (first | (with_reducible first | exact HB.out | apply below_alloc | apply q16_ | apply below_drew1 | refine below_set ?_ GE209.out | refine below_set ?_ GE210.out | refine below_set ?_ GE211.out | refine below_set ?_ GE212.out) | exact HB.out)⟩⟩
  case round =>
    clear H'
    try clear c1
    try clear p2
    try clear c6
    try clear c7
    try clear c10
    try clear c11
    try clear c12
    try clear hcz13_0
    try clear hcz13_1
    try clear hcz13_2
    try clear hcz13_3
    try clear hcz8_0
    try clear hcz8_1
    try clear hcz8_2
    try clear hcz8_3
    try clear hfz13_0
    try clear hfz13_1
    try clear hfz13_2
    try clear hfz13_3
    try clear hfz8_0
    try clear hfz8_1
    try clear hfz8_2
    try clear hfz8_3
    obtain ⟨x7_1, x213002_1, u213002, rfl, HA, HK1, HO_213002, BK209, BK210, BK211, BK212, HB⟩ := hrel
    cases gk with
    | zero => exact absurd HA.out (by simp [codesearchref49_Receive.l0])
    | succ k1 =>
      have H := HA.out; clear HA; simp only [codesearchref49_Receive.l0] at H
      by_cases c14 : x7_1 < (l0_2.length : Int)
      · rw [if_pos c14] at H; have c14b0 : decide (x7_1 < (l0_2.length : Int)) = true := decide_eq_true c14; clear c14
        by_cases c15 : 0 ≤ x7_1
        · rw [if_pos c15] at H; have c15b0 : decide (0 ≤ x7_1) = true := decide_eq_true c15; clear c15
          by_cases c16 : x213002_1.length < 2932031007402
          · rw [if_pos c16] at H; have LMc16 := a16_ c16; clear c16; obtain ⟨y214, hy214⟩ : ∃ y_ : List (S36), y_ = (x213002_1 ++ [(⟨(rd_T36 l0_2 x7_1).f0, (rd_T36 l0_2 x7_1).f1, (rd_T36 l0_2 x7_1).f2, (rd_T36 l0_2 x7_1).f3⟩ : S36)]) := ⟨_, rfl⟩; replace H : (codesearchref49_Receive.l0 k1 (wrap64 (x7_1 + 1)) a0_0 a0_1 l0_2 l0_3 a1_0 a1_1 a1_2 a1_3 a1_4 a1_5 a0_0 a0_1 y214) = some (r1, r2, r3, r4, r5) := by first | (rw [hy214]; with_reducible exact H) | (have H2_ := (Option.bind_some _ _).symm.trans H; rw [hy214]; with_reducible exact H2_) | (have H2_ := (Option.bind_some _ _).symm.trans H; with_reducible exact H2_) | with_reducible exact H | (rw [hy214]; exact H) | exact H
            have Ny214 := a16_ hy214; clear hy214; have H' := a16_ H; clear H; have hnb17 := NB209_210.out; have hnc17 := NB210_209.out; have hnb18 := NB209_211.out; have hnc18 := NB211_209.out; have hnb19 := NB209_212.out; have hnc19 := NB212_209.out; have hcz20_0 : wr.cell? ⟨gb209, 0, none⟩ = some (.int .i64 a0_0) := (blk_cell BK209.out 0).trans rfl; have hcz20_1 : wr.cell? ⟨gb209, 1, none⟩ = some (.int .i64 a0_1) := (blk_cell BK209.out 1).trans rfl; have hcz20_2 : wr.cell? ⟨gb209, 2, none⟩ = some (.slice A0_2 l0_2.length c0_2) := (blk_cell BK209.out 2).trans rfl; have hcz20_3 : wr.cell? ⟨gb209, 3, none⟩ = some (.slice A0_3 l0_3.length c0_3) := (blk_cell BK209.out 3).trans rfl; have hfz20_0 := blk_frozen BK209.out 0; have hfz20_1 := blk_frozen BK209.out 1; have hfz20_2 := blk_frozen BK209.out 2; have hfz20_3 := blk_frozen BK209.out 3
            try go_wp2
            replace HO_213002 := a16_ (Kd.R_drew HO_213002.out); replace BK209 := a16_ (blk_drew BK209.out); replace BK210 := a16_ (blk_drew BK210.out); replace BK211 := a16_ (blk_drew BK211.out); replace BK212 := a16_ (blk_drew BK212.out); replace HB := a16_ (below_drew1 HB.out); have p213 : 0 ≤ (x7_1 : Int) := of_decide_eq_true (by first | (with_reducible assumption) | assumption); have q213 : x7_1 < (l0_2.length : Int) := of_decide_eq_true (by first | (with_reducible assumption) | assumption); obtain ⟨ad213, e213, hx213_0, hx213_1, hx213_2, hx213_3⟩ := at_T36 HR0_2.out x7_1 p213 q213; have hw213_3 := hx213_3; have hw213_2 := hx213_2; have hw213_1 := hx213_1; have hw213_0 := hx213_0
            cases e213
            replace hx213_0 := (HB.out.cell (World.block_lt_of_cell? w _ hx213_0)).trans hx213_0; replace hx213_1 := (HB.out.cell (World.block_lt_of_cell? w _ hx213_1)).trans hx213_1; replace hx213_2 := (HB.out.cell (World.block_lt_of_cell? w _ hx213_2)).trans hx213_2; replace hx213_3 := (HB.out.cell (World.block_lt_of_cell? w _ hx213_3)).trans hx213_3; replace p213 := eq_true p213; replace q213 := eq_true q213; refine start_ (n := 11) (S := fun w' => w'.cell? ⟨gb212, 0, none⟩ = some (.int .i64 a0_0) ∧ w'.cell? ⟨gb212, 1, none⟩ = some (.int .i64 a0_1) ∧ w'.cell? ⟨gb212, 2, none⟩ = some (u213002) ∧ w'.cell? ⟨gb212, 3, none⟩ = some (.slice none 0 0) ∧ w'.cell? ⟨gb209, 0, none⟩ = some (.int .i64 a0_0) ∧ w'.cell? ⟨gb209, 1, none⟩ = some (.int .i64 a0_1) ∧ w'.cell? ⟨gb209, 2, none⟩ = some (.slice (some ad213) l0_2.length c0_2) ∧ w'.cell? ⟨gb209, 3, none⟩ = some (.slice A0_3 l0_3.length c0_3) ∧ w'.cell? (ad213.add ((x7_1).toNat * 4)) = some (.int .i64 ((rd_T36 l0_2 x7_1).f0)) ∧ w'.cell? ⟨(ad213.add ((x7_1).toNat * 4)).block, (ad213.add ((x7_1).toNat * 4)).off + 1, none⟩ = some (.int .i64 ((rd_T36 l0_2 x7_1).f1)) ∧ w'.cell? ⟨(ad213.add ((x7_1).toNat * 4)).block, (ad213.add ((x7_1).toNat * 4)).off + 2, none⟩ = some (.string ((rd_T36 l0_2 x7_1).f2)) ∧ w'.cell? ⟨(ad213.add ((x7_1).toNat * 4)).block, (ad213.add ((x7_1).toNat * 4)).off + 3, none⟩ = some (.string ((rd_T36 l0_2 x7_1).f3))) (ds := [10]) b16_0 (by kernel_rfl) rfl rfl ⟨(blk_cell BK212.out 0).trans rfl, (blk_cell BK212.out 1).trans rfl, (blk_cell BK212.out 2).trans rfl, (blk_cell BK212.out 3).trans rfl, (blk_cell BK209.out 0).trans rfl, (blk_cell BK209.out 1).trans rfl, (blk_cell BK209.out 2).trans rfl, (blk_cell BK209.out 3).trans rfl, ((HB.out.cell (World.block_lt_of_cell? w _ hw213_0)).trans hw213_0), ((HB.out.cell (World.block_lt_of_cell? w _ hw213_1)).trans hw213_1), ((HB.out.cell (World.block_lt_of_cell? w _ hw213_2)).trans hw213_2), ((HB.out.cell (World.block_lt_of_cell? w _ hw213_3)).trans hw213_3)⟩ (fun hHeld => ?_); refine with_tabW codesearchref49_Receive.tab5 codesearchref49_Receive.bits5 (fun HT_ HW_ => ?_)
            generalize wr.drew = w21 at HO_213002 BK209 BK210 BK211 BK212 HB hx213_0 hx213_1 hx213_2 hx213_3 hHeld ⊢
            refine pure_ (i := 0) (N := some 22) (v := ?_) (a' := ?_) b16_1 rfl rfl (any_of HT_.out (by kernel_rfl)) (fun _ _ _ h => h) (Or.inl ⟨by rfl, ?_⟩) ?_ ?_; rotate_left
            · intro w'; go_simp
              with_reducible rfl
            rotate_left
            · simp only [Act.put, sT16_, sZ16_, sS16_, i64_w, i32_w]; rfl
            refine pure_ (i := 2) (N := some 24) (v := ?_) (a' := ?_) b16_2 rfl rfl (any_of HT_.out (by kernel_rfl)) (fun _ _ _ h => h) (Or.inl ⟨by rfl, ?_⟩) ?_ ?_; rotate_left
            · intro w'; go_simp
              with_reducible rfl
            rotate_left
            · simp only [Act.put, sT16_, sZ16_, sS16_, i64_w, i32_w]; rfl
            refine pure_ (i := 4) (N := some 26) (v := ?_) (a' := ?_) b16_3 rfl rfl (any_of HT_.out (by kernel_rfl)) (fun _ _ _ h => h) (Or.inl ⟨by rfl, ?_⟩) ?_ ?_; rotate_left
            · intro w'; go_simp
              with_reducible rfl
            rotate_left
            · simp only [Act.put, sT16_, sZ16_, sS16_, i64_w, i32_w]; rfl
            refine take_ (i := 1) (N := some 23) (v := ?_) (a' := ?_) b16_4 rfl rfl (take_ofW HT_.out HW_.out (by kernel_rfl)) (fun _ _ _ h => h) (Or.inl ⟨by rfl, ?_⟩) hHeld ?_ ?_; rotate_left
            · rintro w' ⟨s0, s1, s2, s3, s4, s5, s6, s7, s8, s9, s10, s11⟩; go_simp
              with_reducible rfl
            rotate_left
            · simp only [Act.put, sT16_, sZ16_, sS16_, i64_w, i32_w]; rfl
            refine take_ (i := 3) (N := some 25) (v := ?_) (a' := ?_) b16_5 rfl rfl (take_ofW HT_.out HW_.out (by kernel_rfl)) (fun _ _ _ h => h) (Or.inl ⟨by rfl, ?_⟩) hHeld ?_ ?_; rotate_left
            · rintro w' ⟨s0, s1, s2, s3, s4, s5, s6, s7, s8, s9, s10, s11⟩; go_simp
              with_reducible rfl
            rotate_left
            · simp only [Act.put, sT16_, sZ16_, sS16_, i64_w, i32_w]; rfl
            refine pure_ (i := 5) (N := some 27) (v := ?_) (a' := ?_) b16_6 rfl rfl (any_of HT_.out (by kernel_rfl)) (fun _ _ _ h => h) (Or.inl ⟨by rfl, ?_⟩) ?_ ?_; rotate_left
            · intro w'; go_simp
              with_reducible rfl
            rotate_left
            · simp only [Act.put, sT16_, sZ16_, sS16_, i64_w, i32_w]; rfl
            refine take_ (i := 6) (N := some 28) (v := ?_) (a' := ?_) b16_7 rfl rfl (take_ofW HT_.out HW_.out (by kernel_rfl)) (fun _ _ _ h => h) (Or.inl ⟨by rfl, ?_⟩) hHeld ?_ ?_; rotate_left
            · rintro w' ⟨s0, s1, s2, s3, s4, s5, s6, s7, s8, s9, s10, s11⟩; go_simp
              with_reducible rfl
            rotate_left
            · simp only [Act.put, sT16_, sZ16_, sS16_, i64_w, i32_w]; rfl
            refine one_ (i := 7) (N := some 29) b16_8 rfl rfl (one_of HT_.out (by kernel_rfl)) (by decide) (fun K hK => ?_); refine value_ (w1 := ?_) (v := ?_) (by rfl) rfl ?_ ?_; rotate_left 2
            · go_simp
              constructor
              · rfl
              · rfl
            refine hK.out _ _ ⟨(blk_cell (blk_alloc BK212.out _) 0).trans rfl, (blk_cell (blk_alloc BK212.out _) 1).trans rfl, (blk_cell (blk_alloc BK212.out _) 2).trans rfl, (blk_cell (blk_alloc BK212.out _) 3).trans rfl, (blk_cell (blk_alloc BK209.out _) 0).trans rfl, (blk_cell (blk_alloc BK209.out _) 1).trans rfl, (blk_cell (blk_alloc BK209.out _) 2).trans rfl, (blk_cell (blk_alloc BK209.out _) 3).trans rfl, (World.cell?_alloc_lt _ _ _ (World.block_lt_of_cell? _ _ (((HB.out.cell (World.block_lt_of_cell? w _ hw213_0)).trans hw213_0)))).trans (((HB.out.cell (World.block_lt_of_cell? w _ hw213_0)).trans hw213_0)), (World.cell?_alloc_lt _ _ _ (World.block_lt_of_cell? _ _ (((HB.out.cell (World.block_lt_of_cell? w _ hw213_1)).trans hw213_1)))).trans (((HB.out.cell (World.block_lt_of_cell? w _ hw213_1)).trans hw213_1)), (World.cell?_alloc_lt _ _ _ (World.block_lt_of_cell? _ _ (((HB.out.cell (World.block_lt_of_cell? w _ hw213_2)).trans hw213_2)))).trans (((HB.out.cell (World.block_lt_of_cell? w _ hw213_2)).trans hw213_2)), (World.cell?_alloc_lt _ _ _ (World.block_lt_of_cell? _ _ (((HB.out.cell (World.block_lt_of_cell? w _ hw213_3)).trans hw213_3)))).trans (((HB.out.cell (World.block_lt_of_cell? w _ hw213_3)).trans hw213_3))⟩ (fun hHeld => ?_); clear hK K; refine norm_ (a' := ?_) ?_ ?_; rotate_left
            · show Act.put _ (some 29) _ = _
              simp only [Act.put, sT16_, sZ16_, sS16_, i64_w, i32_w]; rfl
            refine one_ (i := 8) (N := some 30) b16_9 rfl rfl (one_of HT_.out (by kernel_rfl)) (by decide) (fun K hK => ?_); refine Kd.R_append_step k36 (w0 := w) w.heap.size (by rfl) (.tmp 23) (.tmp 29) 25 36 (.agg #[(.int .i64 0), (.int .i64 0), (.string ⟨#[]⟩), (.string ⟨#[]⟩)]) 48 rfl Try.underlying25 info36 rfl (by decide) (by omega) u213002 x213002_1 (⟨(rd_T36 l0_2 x7_1).f0, (rd_T36 l0_2 x7_1).f1, (rd_T36 l0_2 x7_1).f2, (rd_T36 l0_2 x7_1).f3⟩ : S36) [.int .i64 ((rd_T36 l0_2 x7_1).f0), .int .i64 ((rd_T36 l0_2 x7_1).f1), .string ((rd_T36 l0_2 x7_1).f2), .string ((rd_T36 l0_2 x7_1).f3)] (fun _ => True) (fun _ => False) rfl rfl ?aP (fun _ hk => hk.elim) ?aF ?aO ?aB ?aS ?aL ?_
            (case aP => exact k36_mkM _ _ _ (⟨(rd_T36 l0_2 x7_1).f0, (rd_T36 l0_2 x7_1).f1, (rd_T36 l0_2 x7_1).f2, (rd_T36 l0_2 x7_1).f3⟩ : S36))
            (case aB => exact z16_)
            (case aF => exact (fun _ _ => trivial))
            (case aO => exact (r16_ HO_213002.out))
            (case aS => exact (below_size z16_))
            (case aL => have := LMc16.out; omega)
            intro v215 w22 ho hb hg hat; rw [← Ny214.out] at ho; replace BK209 := a16_ (blk_grown (g := gb209) (o := .cells #[.int .i64 a0_0, .int .i64 a0_1, .slice (some ad213) l0_2.length c0_2, .slice A0_3 l0_3.length c0_3] 34 (0, 0)) (k16_ BK209.out) hg (Kd.R_ne HO_213002.out BK209.out (by decide))); replace BK210 := a16_ (blk_grown (g := gb210) (o := .cells #[.int .i64 a1_0, .int .i64 a1_1, .int .i64 a1_2, .int .i64 a1_3, .string a1_4, .string a1_5] 38 (0, 0)) (k16_ BK210.out) hg (Kd.R_ne HO_213002.out BK210.out (by decide))); replace BK211 := a16_ (blk_grown (g := gb211) (o := .cells #[.int .i64 0, .int .i64 0, .slice none 0 0, .slice none 0 0] 34 (0, 0)) (k16_ BK211.out) hg (Kd.R_ne HO_213002.out BK211.out (by decide))); replace BK212 := a16_ (blk_grown (g := gb212) (o := .cells #[.int .i64 a0_0, .int .i64 a0_1, u213002, .slice none 0 0] 34 (0, 0)) (k16_ BK212.out) hg (Kd.R_ne HO_213002.out BK212.out (by decide))); replace HB := a16_ (hb); have HO216 := a16_ (ho); clear HO_213002 ho hb hg hat; obtain ⟨Ao23, co23, eo23⟩ := Kd.R_slice HO216.out
            (first | subst eo23 | (injection eo23 with f1_ f2_ f3_; have f4_ := f1_.symm; have f5_ := f3_.symm; clear f1_ f2_ f3_; subst f4_; subst f5_))
            refine hK.out _ _ ⟨(blk_cell BK212.out 0).trans rfl, (blk_cell BK212.out 1).trans rfl, (blk_cell BK212.out 2).trans rfl, (blk_cell BK212.out 3).trans rfl, (blk_cell BK209.out 0).trans rfl, (blk_cell BK209.out 1).trans rfl, (blk_cell BK209.out 2).trans rfl, (blk_cell BK209.out 3).trans rfl, ((HB.out.cell (World.block_lt_of_cell? w _ hw213_0)).trans hw213_0), ((HB.out.cell (World.block_lt_of_cell? w _ hw213_1)).trans hw213_1), ((HB.out.cell (World.block_lt_of_cell? w _ hw213_2)).trans hw213_2), ((HB.out.cell (World.block_lt_of_cell? w _ hw213_3)).trans hw213_3)⟩ (fun hHeld => ?_); clear hK K; refine norm_ (a' := ?_) ?_ ?_; rotate_left
            · show Act.put _ (some 30) _ = _
              simp only [Act.put, sT16_, sZ16_, sS16_, i64_w, i32_w]; rfl
            refine pure_ (i := 9) (N := some 31) (v := ?_) (a' := ?_) b16_10 rfl rfl (any_of HT_.out (by kernel_rfl)) (fun _ _ _ h => h) (Or.inl ⟨by rfl, ?_⟩) ?_ ?_; rotate_left
            · intro w'; go_simp
              with_reducible rfl
            rotate_left
            · simp only [Act.put, sT16_, sZ16_, sS16_, i64_w, i32_w]; rfl
            refine last_ (i := 10) (N := none) b16_11 rfl rfl (one_of HT_.out (by kernel_rfl)) (by decide) (fun K hK => ?_); have hs24 : w22.cell? ⟨gb212, 2, none⟩ = some (u213002) := (blk_cell BK212.out 2).trans rfl; have hfs24 := blk_frozen BK212.out 2; have hns24_0 := NB209_212.out; have hns24_1 := NB210_212.out; have hns24_2 := NB211_212.out; have hms24_0 := NB212_209.out; have hms24_1 := NB212_210.out; have hms24_2 := NB212_211.out; refine skip_ (w1 := ?_) (by rfl) rfl ?_ ?_; rotate_left
            · go_simp
              rfl
            refine hK.out _ _ ?_; clear hK K; refine done_ (done_of HT_.out (by kernel_rfl)) ?_
            try go_wp2
            go_roundg k1
            case measure => have := HK1.out; omega
            case rel => exact ⟨(wrap64 (x7_1 + 1)), (y214), (.slice Ao23 y214.length co23), (by first | rfl | (simp; done) | (simp [*]; done)), H', ⟨by have := HK1.out; omega⟩, ⟨by (with_reducible repeat (first | apply Kd.R_alloc | apply Kd.R_drewN | apply Kd.R_drew)); exact Kd.R_mono (Kd.R_far (p := ⟨gb212, 2, none⟩) (Kd.R_types HO216.out BK212.out (by decide)) (fun _ hk => hk.2) (.slice Ao23 y214.length co23)) (fun _ hk => trivial)⟩, ⟨by (with_reducible repeat (first | refine blk_drewN ?_ _ | refine blk_drew ?_ | refine blk_alloc ?_ _)); refine blk_far ?_ NB209_212.out _; (with_reducible repeat (first | refine blk_drewN ?_ _ | refine blk_drew ?_ | refine blk_alloc ?_ _)); exact BK209.out⟩, ⟨by (with_reducible repeat (first | refine blk_drewN ?_ _ | refine blk_drew ?_ | refine blk_alloc ?_ _)); refine blk_far ?_ NB210_212.out _; (with_reducible repeat (first | refine blk_drewN ?_ _ | refine blk_drew ?_ | refine blk_alloc ?_ _)); exact BK210.out⟩, ⟨by (with_reducible repeat (first | refine blk_drewN ?_ _ | refine blk_drew ?_ | refine blk_alloc ?_ _)); refine blk_far ?_ NB211_212.out _; (with_reducible repeat (first | refine blk_drewN ?_ _ | refine blk_drew ?_ | refine blk_alloc ?_ _)); exact BK211.out⟩, ⟨by (with_reducible repeat (first | refine blk_drewN ?_ _ | refine blk_drew ?_ | refine blk_alloc ?_ _)); refine blk_put (cs := #[.int .i64 a0_0, .int .i64 a0_1, u213002, .slice none 0 0]) ?_ 2 _ rfl; (with_reducible repeat (first | refine blk_drewN ?_ _ | refine blk_drew ?_ | refine blk_alloc ?_ _)); exact BK212.out⟩, ⟨by repeat (first | (with_reducible first | exact HB.out | apply below_alloc | apply q16_ | apply below_drew1 | refine below_set ?_ GE209.out | refine below_set ?_ GE210.out | refine below_set ?_ GE211.out | refine below_set ?_ GE212.out) | exact HB.out)⟩⟩
          · rw [if_neg c16] at H; exact absurd H (by simp)
        · rw [if_neg c15] at H; exact absurd H (by simp)
      · rw [if_neg c14] at H; have c14b0 : decide (x7_1 < (l0_2.length : Int)) = false := decide_eq_false c14; clear c14; have H' := a16_ H; clear H; have hnb25 := NB209_210.out; have hnc25 := NB210_209.out; have hnb26 := NB209_211.out; have hnc26 := NB211_209.out; have hnb27 := NB209_212.out; have hnc27 := NB212_209.out; have hcz28_0 : wr.cell? ⟨gb209, 0, none⟩ = some (.int .i64 a0_0) := (blk_cell BK209.out 0).trans rfl; have hcz28_1 : wr.cell? ⟨gb209, 1, none⟩ = some (.int .i64 a0_1) := (blk_cell BK209.out 1).trans rfl; have hcz28_2 : wr.cell? ⟨gb209, 2, none⟩ = some (.slice A0_2 l0_2.length c0_2) := (blk_cell BK209.out 2).trans rfl; have hcz28_3 : wr.cell? ⟨gb209, 3, none⟩ = some (.slice A0_3 l0_3.length c0_3) := (blk_cell BK209.out 3).trans rfl; have hfz28_0 := blk_frozen BK209.out 0; have hfz28_1 := blk_frozen BK209.out 1; have hfz28_2 := blk_frozen BK209.out 2; have hfz28_3 := blk_frozen BK209.out 3
        go_wp2
        go_loopg [8] k1 (fun kq v8 w' => ∃ (x8_2 : Int) (x213003_2 : List (S38)) (u213003 : Value), v8 = .int .i64 x8_2 ∧ Aside0 (codesearchref49_Receive.l1 kq x8_2 a0_0 a0_1 l0_2 l0_3 a1_0 a1_1 a1_2 a1_3 a1_4 a1_5 a0_0 a0_1 x213002_1 x213003_2 = some (r1, r2, r3, r4, r5)) ∧ Aside0 (kq ≤ k1) ∧ Aside0 (Kd.R k36 36 w' w.heap.size (fun _ => True) u213002 x213002_1) ∧ Aside0 (Kd.R k38 38 w' w.heap.size (fun k_ => k_ ≠ gb210) u213003 x213003_2) ∧ Aside0 (w'.heap[gb209]? = some (.cells #[.int .i64 a0_0, .int .i64 a0_1, (.slice A0_2 l0_2.length c0_2), (.slice A0_3 l0_3.length c0_3)] 34 (0, 0))) ∧ Aside0 (w'.heap[gb210]? = some (.cells #[.int .i64 a1_0, .int .i64 a1_1, .int .i64 a1_2, .int .i64 a1_3, .string a1_4, .string a1_5] 38 (0, 0))) ∧ Aside0 (w'.heap[gb211]? = some (.cells #[.int .i64 0, .int .i64 0, (.slice none 0 0), (.slice none 0 0)] 34 (0, 0))) ∧ Aside0 (w'.heap[gb212]? = some (.cells #[.int .i64 a0_0, .int .i64 a0_1, u213002, u213003] 34 (0, 0))) ∧ Aside0 (Below w.heap.size w w'))
        case atStart => exact ⟨(0), (([] : List (S38))), (.slice none 0 0), (by first | rfl | (simp; done) | (simp [*]; done)), H', ⟨Nat.le_refl _⟩, ⟨by (with_reducible repeat (first | apply Kd.R_alloc | apply Kd.R_drewN | apply Kd.R_drew)); exact HO_213002.out⟩, ⟨by first | exact Kd.R_nil _ _ _ _ _ | exact Kd.N_nil _ _ _ _ _ | exact Kd.V_nil _ _ _ _ _ | exact Kd.Q_nil _ _ _ _ _ | exact Kd.S_nil _ _ _ _ _⟩, ⟨by (with_reducible repeat (first | refine blk_drewN ?_ _ | refine blk_drew ?_ | refine blk_alloc ?_ _)); exact BK209.out⟩, ⟨by (with_reducible repeat (first | refine blk_drewN ?_ _ | refine blk_drew ?_ | refine blk_alloc ?_ _)); exact BK210.out⟩, ⟨by (with_reducible repeat (first | refine blk_drewN ?_ _ | refine blk_drew ?_ | refine blk_alloc ?_ _)); exact BK211.out⟩, ⟨by (with_reducible repeat (first | refine blk_drewN ?_ _ | refine blk_drew ?_ | refine blk_alloc ?_ _)); exact BK212.out⟩, ⟨by repeat (first | (with_reducible first | exact HB.out | apply below_alloc | apply q16_ | apply below_drew1 | refine below_set ?_ GE209.out | refine below_set ?_ GE210.out | refine below_set ?_ GE211.out | refine below_set ?_ GE212.out) | exact HB.out)⟩⟩
        case round =>
          clear H'
          try clear c1
          try clear c2
          try clear p2
          try clear q2
          try clear hx2
          try clear c6
          try clear p6
          try clear c7
          try clear c10
          try clear c11
          try clear c12
          try clear c14
          try clear c14b0
          try clear c15
          try clear c15b0
          try clear c16
          try clear c17
          try clear c18
          try clear c19
          try clear p21
          try clear q21
          try clear hx21
          try clear c25
          try clear c26
          try clear c27
          try clear hcz13_0
          try clear hcz13_1
          try clear hcz13_2
          try clear hcz13_3
          try clear hcz20_0
          try clear hcz20_1
          try clear hcz20_2
          try clear hcz20_3
          try clear hcz28_0
          try clear hcz28_1
          try clear hcz28_2
          try clear hcz28_3
          try clear hcz8_0
          try clear hcz8_1
          try clear hcz8_2
          try clear hcz8_3
          try clear hfz13_0
          try clear hfz13_1
          try clear hfz13_2
          try clear hfz13_3
          try clear hfz20_0
          try clear hfz20_1
          try clear hfz20_2
          try clear hfz20_3
          try clear hfz28_0
          try clear hfz28_1
          try clear hfz28_2
          try clear hfz28_3
          try clear hfz8_0
          try clear hfz8_1
          try clear hfz8_2
          try clear hfz8_3
          try clear hx213_0
          try clear hx213_1
          try clear hx213_2
          try clear hx213_3
          try clear p2
          try clear p213
          try clear q213
          obtain ⟨x8_2, x213003_2, u213003, rfl, HA, HK2, HO_213002, HO_213003, BK209, BK210, BK211, BK212, HB⟩ := hrel
          cases gk with
          | zero => exact absurd HA.out (by simp [codesearchref49_Receive.l1])
          | succ k2 =>
            have H := HA.out; clear HA; simp only [codesearchref49_Receive.l1] at H
            by_cases c29 : x8_2 < (l0_3.length : Int)
            · rw [if_pos c29] at H; have c29b0 : decide (x8_2 < (l0_3.length : Int)) = true := decide_eq_true c29; clear c29
              by_cases c30 : 0 ≤ x8_2
              · rw [if_pos c30] at H; have c30b0 : decide (0 ≤ x8_2) = true := decide_eq_true c30; clear c30
                by_cases c31 : x213003_2.length < 2199023255552
                · rw [if_pos c31] at H; have LMc31 := a16_ c31; clear c31; obtain ⟨y218, hy218⟩ : ∃ y_ : List (S38), y_ = (x213003_2 ++ [(⟨(rd_T38 l0_3 x8_2).f0, (rd_T38 l0_3 x8_2).f1, (⟨(rd_T38 l0_3 x8_2).f2.f0, (rd_T38 l0_3 x8_2).f2.f1, (rd_T38 l0_3 x8_2).f2.f2, (rd_T38 l0_3 x8_2).f2.f3⟩ : S36)⟩ : S38)]) := ⟨_, rfl⟩; replace H : (codesearchref49_Receive.l1 k2 (wrap64 (x8_2 + 1)) a0_0 a0_1 l0_2 l0_3 a1_0 a1_1 a1_2 a1_3 a1_4 a1_5 a0_0 a0_1 x213002_1 y218) = some (r1, r2, r3, r4, r5) := by first | (rw [hy218]; with_reducible exact H) | (have H2_ := (Option.bind_some _ _).symm.trans H; rw [hy218]; with_reducible exact H2_) | (have H2_ := (Option.bind_some _ _).symm.trans H; with_reducible exact H2_) | with_reducible exact H | (rw [hy218]; exact H) | exact H
                  have Ny218 := a16_ hy218; clear hy218; have H' := a16_ H; clear H; have hnb32 := NB209_210.out; have hnc32 := NB210_209.out; have hnb33 := NB209_211.out; have hnc33 := NB211_209.out; have hnb34 := NB209_212.out; have hnc34 := NB212_209.out; have hcz35_0 : wr.cell? ⟨gb209, 0, none⟩ = some (.int .i64 a0_0) := (blk_cell BK209.out 0).trans rfl; have hcz35_1 : wr.cell? ⟨gb209, 1, none⟩ = some (.int .i64 a0_1) := (blk_cell BK209.out 1).trans rfl; have hcz35_2 : wr.cell? ⟨gb209, 2, none⟩ = some (.slice A0_2 l0_2.length c0_2) := (blk_cell BK209.out 2).trans rfl; have hcz35_3 : wr.cell? ⟨gb209, 3, none⟩ = some (.slice A0_3 l0_3.length c0_3) := (blk_cell BK209.out 3).trans rfl; have hfz35_0 := blk_frozen BK209.out 0; have hfz35_1 := blk_frozen BK209.out 1; have hfz35_2 := blk_frozen BK209.out 2; have hfz35_3 := blk_frozen BK209.out 3
                  try go_wp2
                  replace HO_213002 := a16_ (Kd.R_drew HO_213002.out); replace HO_213003 := a16_ (Kd.R_drew HO_213003.out); replace BK209 := a16_ (blk_drew BK209.out); replace BK210 := a16_ (blk_drew BK210.out); replace BK211 := a16_ (blk_drew BK211.out); replace BK212 := a16_ (blk_drew BK212.out); replace HB := a16_ (below_drew1 HB.out); have p217 : 0 ≤ (x8_2 : Int) := of_decide_eq_true (by first | (with_reducible assumption) | assumption); have q217 : x8_2 < (l0_3.length : Int) := of_decide_eq_true (by first | (with_reducible assumption) | assumption); obtain ⟨ad217, e217, hx217_0, hx217_1, hx217_2, hx217_3, hx217_4, hx217_5⟩ := at_T38 HR0_3.out x8_2 p217 q217; have hw217_5 := hx217_5; have hw217_4 := hx217_4; have hw217_3 := hx217_3; have hw217_2 := hx217_2; have hw217_1 := hx217_1; have hw217_0 := hx217_0
                  cases e217
                  replace hx217_0 := (HB.out.cell (World.block_lt_of_cell? w _ hx217_0)).trans hx217_0; replace hx217_1 := (HB.out.cell (World.block_lt_of_cell? w _ hx217_1)).trans hx217_1; replace hx217_2 := (HB.out.cell (World.block_lt_of_cell? w _ hx217_2)).trans hx217_2; replace hx217_3 := (HB.out.cell (World.block_lt_of_cell? w _ hx217_3)).trans hx217_3; replace hx217_4 := (HB.out.cell (World.block_lt_of_cell? w _ hx217_4)).trans hx217_4; replace hx217_5 := (HB.out.cell (World.block_lt_of_cell? w _ hx217_5)).trans hx217_5; replace p217 := eq_true p217; replace q217 := eq_true q217; refine start_ (n := 11) (S := fun w' => w'.cell? ⟨gb212, 0, none⟩ = some (.int .i64 a0_0) ∧ w'.cell? ⟨gb212, 1, none⟩ = some (.int .i64 a0_1) ∧ w'.cell? ⟨gb212, 2, none⟩ = some (u213002) ∧ w'.cell? ⟨gb212, 3, none⟩ = some (u213003) ∧ w'.cell? ⟨gb209, 0, none⟩ = some (.int .i64 a0_0) ∧ w'.cell? ⟨gb209, 1, none⟩ = some (.int .i64 a0_1) ∧ w'.cell? ⟨gb209, 2, none⟩ = some (.slice A0_2 l0_2.length c0_2) ∧ w'.cell? ⟨gb209, 3, none⟩ = some (.slice (some ad217) l0_3.length c0_3) ∧ w'.cell? (ad217.add ((x8_2).toNat * 6)) = some (.int .i64 ((rd_T38 l0_3 x8_2).f0)) ∧ w'.cell? ⟨(ad217.add ((x8_2).toNat * 6)).block, (ad217.add ((x8_2).toNat * 6)).off + 1, none⟩ = some (.int .i64 ((rd_T38 l0_3 x8_2).f1)) ∧ w'.cell? ⟨(ad217.add ((x8_2).toNat * 6)).block, (ad217.add ((x8_2).toNat * 6)).off + 2, none⟩ = some (.int .i64 ((rd_T38 l0_3 x8_2).f2.f0)) ∧ w'.cell? ⟨(ad217.add ((x8_2).toNat * 6)).block, (ad217.add ((x8_2).toNat * 6)).off + 3, none⟩ = some (.int .i64 ((rd_T38 l0_3 x8_2).f2.f1)) ∧ w'.cell? ⟨(ad217.add ((x8_2).toNat * 6)).block, (ad217.add ((x8_2).toNat * 6)).off + 4, none⟩ = some (.string ((rd_T38 l0_3 x8_2).f2.f2)) ∧ w'.cell? ⟨(ad217.add ((x8_2).toNat * 6)).block, (ad217.add ((x8_2).toNat * 6)).off + 5, none⟩ = some (.string ((rd_T38 l0_3 x8_2).f2.f3))) (ds := [10]) b16_0 (by kernel_rfl) rfl rfl ⟨(blk_cell BK212.out 0).trans rfl, (blk_cell BK212.out 1).trans rfl, (blk_cell BK212.out 2).trans rfl, (blk_cell BK212.out 3).trans rfl, (blk_cell BK209.out 0).trans rfl, (blk_cell BK209.out 1).trans rfl, (blk_cell BK209.out 2).trans rfl, (blk_cell BK209.out 3).trans rfl, ((HB.out.cell (World.block_lt_of_cell? w _ hw217_0)).trans hw217_0), ((HB.out.cell (World.block_lt_of_cell? w _ hw217_1)).trans hw217_1), ((HB.out.cell (World.block_lt_of_cell? w _ hw217_2)).trans hw217_2), ((HB.out.cell (World.block_lt_of_cell? w _ hw217_3)).trans hw217_3), ((HB.out.cell (World.block_lt_of_cell? w _ hw217_4)).trans hw217_4), ((HB.out.cell (World.block_lt_of_cell? w _ hw217_5)).trans hw217_5)⟩ (fun hHeld => ?_); refine with_tabW codesearchref49_Receive.tab9 codesearchref49_Receive.bits9 (fun HT_ HW_ => ?_)
                  generalize wr.drew = w36 at HO_213002 HO_213003 BK209 BK210 BK211 BK212 HB hx217_0 hx217_1 hx217_2 hx217_3 hx217_4 hx217_5 hHeld ⊢
                  refine pure_ (i := 0) (N := some 39) (v := ?_) (a' := ?_) b16_1 rfl rfl (any_of HT_.out (by kernel_rfl)) (fun _ _ _ h => h) (Or.inl ⟨by rfl, ?_⟩) ?_ ?_; rotate_left
                  · intro w'; go_simp
                    with_reducible rfl
                  rotate_left
                  · simp only [Act.put, sT16_, sZ16_, sS16_, i64_w, i32_w]; rfl
                  refine pure_ (i := 2) (N := some 41) (v := ?_) (a' := ?_) b16_2 rfl rfl (any_of HT_.out (by kernel_rfl)) (fun _ _ _ h => h) (Or.inl ⟨by rfl, ?_⟩) ?_ ?_; rotate_left
                  · intro w'; go_simp
                    with_reducible rfl
                  rotate_left
                  · simp only [Act.put, sT16_, sZ16_, sS16_, i64_w, i32_w]; rfl
                  refine pure_ (i := 4) (N := some 43) (v := ?_) (a' := ?_) b16_3 rfl rfl (any_of HT_.out (by kernel_rfl)) (fun _ _ _ h => h) (Or.inl ⟨by rfl, ?_⟩) ?_ ?_; rotate_left
                  · intro w'; go_simp
                    with_reducible rfl
                  rotate_left
                  · simp only [Act.put, sT16_, sZ16_, sS16_, i64_w, i32_w]; rfl
                  refine take_ (i := 1) (N := some 40) (v := ?_) (a' := ?_) b16_4 rfl rfl (take_ofW HT_.out HW_.out (by kernel_rfl)) (fun _ _ _ h => h) (Or.inl ⟨by rfl, ?_⟩) hHeld ?_ ?_; rotate_left
                  · rintro w' ⟨s0, s1, s2, s3, s4, s5, s6, s7, s8, s9, s10, s11, s12, s13⟩; go_simp
                    with_reducible rfl
                  rotate_left
                  · simp only [Act.put, sT16_, sZ16_, sS16_, i64_w, i32_w]; rfl
                  refine take_ (i := 3) (N := some 42) (v := ?_) (a' := ?_) b16_5 rfl rfl (take_ofW HT_.out HW_.out (by kernel_rfl)) (fun _ _ _ h => h) (Or.inl ⟨by rfl, ?_⟩) hHeld ?_ ?_; rotate_left
                  · rintro w' ⟨s0, s1, s2, s3, s4, s5, s6, s7, s8, s9, s10, s11, s12, s13⟩; go_simp
                    with_reducible rfl
                  rotate_left
                  · simp only [Act.put, sT16_, sZ16_, sS16_, i64_w, i32_w]; rfl
                  refine pure_ (i := 5) (N := some 44) (v := ?_) (a' := ?_) b16_6 rfl rfl (any_of HT_.out (by kernel_rfl)) (fun _ _ _ h => h) (Or.inl ⟨by rfl, ?_⟩) ?_ ?_; rotate_left
                  · intro w'; go_simp
                    with_reducible rfl
                  rotate_left
                  · simp only [Act.put, sT16_, sZ16_, sS16_, i64_w, i32_w]; rfl
                  refine take_ (i := 6) (N := some 45) (v := ?_) (a' := ?_) b16_7 rfl rfl (take_ofW HT_.out HW_.out (by kernel_rfl)) (fun _ _ _ h => h) (Or.inl ⟨by rfl, ?_⟩) hHeld ?_ ?_; rotate_left
                  · rintro w' ⟨s0, s1, s2, s3, s4, s5, s6, s7, s8, s9, s10, s11, s12, s13⟩; go_simp
                    with_reducible rfl
                  rotate_left
                  · simp only [Act.put, sT16_, sZ16_, sS16_, i64_w, i32_w]; rfl
                  refine one_ (i := 7) (N := some 46) b16_8 rfl rfl (one_of HT_.out (by kernel_rfl)) (by decide) (fun K hK => ?_); refine value_ (w1 := ?_) (v := ?_) (by rfl) rfl ?_ ?_; rotate_left 2
                  · go_simp
                    constructor
                    · rfl
                    · rfl
                  refine hK.out _ _ ⟨(blk_cell (blk_alloc BK212.out _) 0).trans rfl, (blk_cell (blk_alloc BK212.out _) 1).trans rfl, (blk_cell (blk_alloc BK212.out _) 2).trans rfl, (blk_cell (blk_alloc BK212.out _) 3).trans rfl, (blk_cell (blk_alloc BK209.out _) 0).trans rfl, (blk_cell (blk_alloc BK209.out _) 1).trans rfl, (blk_cell (blk_alloc BK209.out _) 2).trans rfl, (blk_cell (blk_alloc BK209.out _) 3).trans rfl, (World.cell?_alloc_lt _ _ _ (World.block_lt_of_cell? _ _ (((HB.out.cell (World.block_lt_of_cell? w _ hw217_0)).trans hw217_0)))).trans (((HB.out.cell (World.block_lt_of_cell? w _ hw217_0)).trans hw217_0)), (World.cell?_alloc_lt _ _ _ (World.block_lt_of_cell? _ _ (((HB.out.cell (World.block_lt_of_cell? w _ hw217_1)).trans hw217_1)))).trans (((HB.out.cell (World.block_lt_of_cell? w _ hw217_1)).trans hw217_1)), (World.cell?_alloc_lt _ _ _ (World.block_lt_of_cell? _ _ (((HB.out.cell (World.block_lt_of_cell? w _ hw217_2)).trans hw217_2)))).trans (((HB.out.cell (World.block_lt_of_cell? w _ hw217_2)).trans hw217_2)), (World.cell?_alloc_lt _ _ _ (World.block_lt_of_cell? _ _ (((HB.out.cell (World.block_lt_of_cell? w _ hw217_3)).trans hw217_3)))).trans (((HB.out.cell (World.block_lt_of_cell? w _ hw217_3)).trans hw217_3)), (World.cell?_alloc_lt _ _ _ (World.block_lt_of_cell? _ _ (((HB.out.cell (World.block_lt_of_cell? w _ hw217_4)).trans hw217_4)))).trans (((HB.out.cell (World.block_lt_of_cell? w _ hw217_4)).trans hw217_4)), (World.cell?_alloc_lt _ _ _ (World.block_lt_of_cell? _ _ (((HB.out.cell (World.block_lt_of_cell? w _ hw217_5)).trans hw217_5)))).trans (((HB.out.cell (World.block_lt_of_cell? w _ hw217_5)).trans hw217_5))⟩ (fun hHeld => ?_); clear hK K; refine norm_ (a' := ?_) ?_ ?_; rotate_left
                  · show Act.put _ (some 46) _ = _
                    simp only [Act.put, sT16_, sZ16_, sS16_, i64_w, i32_w]; rfl
                  refine one_ (i := 8) (N := some 47) b16_9 rfl rfl (one_of HT_.out (by kernel_rfl)) (by decide) (fun K hK => ?_); refine Kd.R_append_step k38 (w0 := w) w.heap.size (by rfl) (.tmp 40) (.tmp 46) 22 38 (.agg #[(.int .i64 0), (.int .i64 0), (.int .i64 0), (.int .i64 0), (.string ⟨#[]⟩), (.string ⟨#[]⟩)]) 64 rfl Try.underlying22 info38 rfl (by decide) (by omega) u213003 x213003_2 (⟨(rd_T38 l0_3 x8_2).f0, (rd_T38 l0_3 x8_2).f1, (⟨(rd_T38 l0_3 x8_2).f2.f0, (rd_T38 l0_3 x8_2).f2.f1, (rd_T38 l0_3 x8_2).f2.f2, (rd_T38 l0_3 x8_2).f2.f3⟩ : S36)⟩ : S38) [.int .i64 ((rd_T38 l0_3 x8_2).f0), .int .i64 ((rd_T38 l0_3 x8_2).f1), .int .i64 ((rd_T38 l0_3 x8_2).f2.f0), .int .i64 ((rd_T38 l0_3 x8_2).f2.f1), .string ((rd_T38 l0_3 x8_2).f2.f2), .string ((rd_T38 l0_3 x8_2).f2.f3)] (fun k_ => k_ ≠ gb210) (fun _ => False) rfl rfl ?aP (fun _ hk => hk.elim) ?aF ?aO ?aB ?aS ?aL ?_
                  (case aP => exact k38_mkM _ _ _ (⟨(rd_T38 l0_3 x8_2).f0, (rd_T38 l0_3 x8_2).f1, (⟨(rd_T38 l0_3 x8_2).f2.f0, (rd_T38 l0_3 x8_2).f2.f1, (rd_T38 l0_3 x8_2).f2.f2, (rd_T38 l0_3 x8_2).f2.f3⟩ : S36)⟩ : S38))
                  (case aB => exact z16_)
                  (case aF => exact (fun k_ hk => Kd.freshB (g := gb210) (o := .cells #[.int .i64 a1_0, .int .i64 a1_1, .int .i64 a1_2, .int .i64 a1_3, .string a1_4, .string a1_5] 38 (0, 0)) (k16_ BK210.out) k_ hk))
                  (case aO => exact (r16_ HO_213003.out))
                  (case aS => exact (below_size z16_))
                  (case aL => have := LMc31.out; omega)
                  intro v219 w37 ho hb hg hat; rw [← Ny218.out] at ho; replace HO_213002 := a16_ (Kd.R_over' (r16_ HO_213002.out) (Kd.R_typed (r16_ HO_213003.out)) (by decide) hg); replace BK209 := a16_ (blk_grown (g := gb209) (o := .cells #[.int .i64 a0_0, .int .i64 a0_1, .slice A0_2 l0_2.length c0_2, .slice (some ad217) l0_3.length c0_3] 34 (0, 0)) (k16_ BK209.out) hg (Kd.R_ne HO_213003.out BK209.out (by decide))); replace BK210 := a16_ (blk_grown (g := gb210) (o := .cells #[.int .i64 a1_0, .int .i64 a1_1, .int .i64 a1_2, .int .i64 a1_3, .string a1_4, .string a1_5] 38 (0, 0)) (k16_ BK210.out) hg (Kd.R_away HO_213003.out (fun _ hk => hk))); replace BK211 := a16_ (blk_grown (g := gb211) (o := .cells #[.int .i64 0, .int .i64 0, .slice none 0 0, .slice none 0 0] 34 (0, 0)) (k16_ BK211.out) hg (Kd.R_ne HO_213003.out BK211.out (by decide))); replace BK212 := a16_ (blk_grown (g := gb212) (o := .cells #[.int .i64 a0_0, .int .i64 a0_1, u213002, u213003] 34 (0, 0)) (k16_ BK212.out) hg (Kd.R_ne HO_213003.out BK212.out (by decide))); replace HB := a16_ (hb); have HO220 := a16_ (ho); clear HO_213003 ho hb hg hat; obtain ⟨Ao38, co38, eo38⟩ := Kd.R_slice HO220.out
                  (first | subst eo38 | (injection eo38 with f1_ f2_ f3_; have f4_ := f1_.symm; have f5_ := f3_.symm; clear f1_ f2_ f3_; subst f4_; subst f5_))
                  refine hK.out _ _ ⟨(blk_cell BK212.out 0).trans rfl, (blk_cell BK212.out 1).trans rfl, (blk_cell BK212.out 2).trans rfl, (blk_cell BK212.out 3).trans rfl, (blk_cell BK209.out 0).trans rfl, (blk_cell BK209.out 1).trans rfl, (blk_cell BK209.out 2).trans rfl, (blk_cell BK209.out 3).trans rfl, ((HB.out.cell (World.block_lt_of_cell? w _ hw217_0)).trans hw217_0), ((HB.out.cell (World.block_lt_of_cell? w _ hw217_1)).trans hw217_1), ((HB.out.cell (World.block_lt_of_cell? w _ hw217_2)).trans hw217_2), ((HB.out.cell (World.block_lt_of_cell? w _ hw217_3)).trans hw217_3), ((HB.out.cell (World.block_lt_of_cell? w _ hw217_4)).trans hw217_4), ((HB.out.cell (World.block_lt_of_cell? w _ hw217_5)).trans hw217_5)⟩ (fun hHeld => ?_); clear hK K; refine norm_ (a' := ?_) ?_ ?_; rotate_left
                  · show Act.put _ (some 47) _ = _
                    simp only [Act.put, sT16_, sZ16_, sS16_, i64_w, i32_w]; rfl
                  refine pure_ (i := 9) (N := some 48) (v := ?_) (a' := ?_) b16_10 rfl rfl (any_of HT_.out (by kernel_rfl)) (fun _ _ _ h => h) (Or.inl ⟨by rfl, ?_⟩) ?_ ?_; rotate_left
                  · intro w'; go_simp
                    with_reducible rfl
                  rotate_left
                  · simp only [Act.put, sT16_, sZ16_, sS16_, i64_w, i32_w]; rfl
                  refine last_ (i := 10) (N := none) b16_11 rfl rfl (one_of HT_.out (by kernel_rfl)) (by decide) (fun K hK => ?_); have hs39 : w37.cell? ⟨gb212, 3, none⟩ = some (u213003) := (blk_cell BK212.out 3).trans rfl; have hfs39 := blk_frozen BK212.out 3; have hns39_0 := NB209_212.out; have hns39_1 := NB210_212.out; have hns39_2 := NB211_212.out; have hms39_0 := NB212_209.out; have hms39_1 := NB212_210.out; have hms39_2 := NB212_211.out; refine skip_ (w1 := ?_) (by rfl) rfl ?_ ?_; rotate_left
                  · go_simp
                    rfl
                  refine hK.out _ _ ?_; clear hK K; refine done_ (done_of HT_.out (by kernel_rfl)) ?_
                  try go_wp2
                  go_roundg k2
                  case measure => have := HK1.out; have := HK2.out; omega
                  case rel => exact ⟨(wrap64 (x8_2 + 1)), (y218), (.slice Ao38 y218.length co38), (by first | rfl | (simp; done) | (simp [*]; done)), H', ⟨by have := HK1.out; have := HK2.out; omega⟩, ⟨by (with_reducible repeat (first | apply Kd.R_alloc | apply Kd.R_drewN | apply Kd.R_drew)); exact Kd.R_mono (Kd.R_far (p := ⟨gb212, 3, none⟩) (Kd.R_types HO_213002.out BK212.out (by decide)) (fun _ hk => hk.2) (.slice Ao38 y218.length co38)) (fun _ hk => trivial)⟩, ⟨by (with_reducible repeat (first | apply Kd.R_alloc | apply Kd.R_drewN | apply Kd.R_drew)); exact Kd.R_mono (Kd.R_far (p := ⟨gb212, 3, none⟩) (Kd.R_types HO220.out BK212.out (by decide)) (fun _ hk => hk.2) (.slice Ao38 y218.length co38)) (fun _ hk => hk.1)⟩, ⟨by (with_reducible repeat (first | refine blk_drewN ?_ _ | refine blk_drew ?_ | refine blk_alloc ?_ _)); refine blk_far ?_ NB209_212.out _; (with_reducible repeat (first | refine blk_drewN ?_ _ | refine blk_drew ?_ | refine blk_alloc ?_ _)); exact BK209.out⟩, ⟨by (with_reducible repeat (first | refine blk_drewN ?_ _ | refine blk_drew ?_ | refine blk_alloc ?_ _)); refine blk_far ?_ NB210_212.out _; (with_reducible repeat (first | refine blk_drewN ?_ _ | refine blk_drew ?_ | refine blk_alloc ?_ _)); exact BK210.out⟩, ⟨by (with_reducible repeat (first | refine blk_drewN ?_ _ | refine blk_drew ?_ | refine blk_alloc ?_ _)); refine blk_far ?_ NB211_212.out _; (with_reducible repeat (first | refine blk_drewN ?_ _ | refine blk_drew ?_ | refine blk_alloc ?_ _)); exact BK211.out⟩, ⟨by (with_reducible repeat (first | refine blk_drewN ?_ _ | refine blk_drew ?_ | refine blk_alloc ?_ _)); refine blk_put (cs := #[.int .i64 a0_0, .int .i64 a0_1, u213002, u213003]) ?_ 3 _ rfl; (with_reducible repeat (first | refine blk_drewN ?_ _ | refine blk_drew ?_ | refine blk_alloc ?_ _)); exact BK212.out⟩, ⟨by repeat (first | (with_reducible first | exact HB.out | apply below_alloc | apply q16_ | apply below_drew1 | refine below_set ?_ GE209.out | refine below_set ?_ GE210.out | refine below_set ?_ GE211.out | refine below_set ?_ GE212.out) | exact HB.out)⟩⟩
                · rw [if_neg c31] at H; exact absurd H (by simp)
              · rw [if_neg c30] at H; exact absurd H (by simp)
            · rw [if_neg c29] at H; have c29b0 : decide (x8_2 < (l0_3.length : Int)) = false := decide_eq_false c29; clear c29; have HC40 := a16_ H; clear H; have hnb41 := NB209_210.out; have hnc41 := NB210_209.out; have hnb42 := NB209_211.out; have hnc42 := NB211_209.out; have hnb43 := NB209_212.out; have hnc43 := NB212_209.out; have hcz44_0 : wr.cell? ⟨gb209, 0, none⟩ = some (.int .i64 a0_0) := (blk_cell BK209.out 0).trans rfl; have hcz44_1 : wr.cell? ⟨gb209, 1, none⟩ = some (.int .i64 a0_1) := (blk_cell BK209.out 1).trans rfl; have hcz44_2 : wr.cell? ⟨gb209, 2, none⟩ = some (.slice A0_2 l0_2.length c0_2) := (blk_cell BK209.out 2).trans rfl; have hcz44_3 : wr.cell? ⟨gb209, 3, none⟩ = some (.slice A0_3 l0_3.length c0_3) := (blk_cell BK209.out 3).trans rfl; have hfz44_0 := blk_frozen BK209.out 0; have hfz44_1 := blk_frozen BK209.out 1; have hfz44_2 := blk_frozen BK209.out 2; have hfz44_3 := blk_frozen BK209.out 3
              go_upto_region 10 with (fail)
              go_cut [60] (fun v60 wc => ∃ (kq : Nat) (x60_39 : Bool), v60 = .bool x60_39 ∧ Aside0 (codesearchref49_Receive.j2 kq x60_39 a0_0 a0_1 l0_2 l0_3 a1_0 a1_1 a1_2 a1_3 a1_4 a1_5 a0_0 a0_1 x213002_1 x213003_2 = some (r1, r2, r3, r4, r5)) ∧ Aside0 (kq ≤ k2) ∧ Aside0 (Kd.R k36 36 wc w.heap.size (fun _ => True) u213002 x213002_1) ∧ Aside0 (Kd.R k38 38 wc w.heap.size (fun k_ => k_ ≠ gb210) u213003 x213003_2) ∧ Aside0 (wc.heap[gb209]? = some (.cells #[.int .i64 a0_0, .int .i64 a0_1, (.slice A0_2 l0_2.length c0_2), (.slice A0_3 l0_3.length c0_3)] 34 (0, 0))) ∧ Aside0 (wc.heap[gb210]? = some (.cells #[.int .i64 a1_0, .int .i64 a1_1, .int .i64 a1_2, .int .i64 a1_3, .string a1_4, .string a1_5] 38 (0, 0))) ∧ Aside0 (wc.heap[gb211]? = some (.cells #[.int .i64 0, .int .i64 0, (.slice none 0 0), (.slice none 0 0)] 34 (0, 0))) ∧ Aside0 (wc.heap[gb212]? = some (.cells #[.int .i64 a0_0, .int .i64 a0_1, u213002, u213003] 34 (0, 0))) ∧ Aside0 (Below w.heap.size w wc))
              case first =>
                have H := HC40.out; clear HC40
                by_cases c45 : a1_0 = a0_0
                · rw [if_pos c45] at H; have c45b0 : (a1_0 == a0_0) = true := beq_iff_eq.mpr c45; have c45b1 : (a1_0 != a0_0) = false := bne_eq_false_iff_eq.mpr c45; clear c45
                  (first | rw [c45b0] | (simp only [i64_w, i32_w]; rw [c45b0]) | skip)
                  have H' := a16_ H; clear H; have hnb46 := NB210_209.out; have hnc46 := NB209_210.out; have hnb47 := NB210_211.out; have hnc47 := NB211_210.out; have hnb48 := NB210_212.out; have hnc48 := NB212_210.out; have hcz49_0 : wr.cell? ⟨gb210, 0, none⟩ = some (.int .i64 a1_0) := (blk_cell BK210.out 0).trans rfl; have hcz49_1 : wr.cell? ⟨gb210, 1, none⟩ = some (.int .i64 a1_1) := (blk_cell BK210.out 1).trans rfl; have hcz49_2 : wr.cell? ⟨gb210, 2, none⟩ = some (.int .i64 a1_2) := (blk_cell BK210.out 2).trans rfl; have hcz49_3 : wr.cell? ⟨gb210, 3, none⟩ = some (.int .i64 a1_3) := (blk_cell BK210.out 3).trans rfl; have hcz49_4 : wr.cell? ⟨gb210, 4, none⟩ = some (.string a1_4) := (blk_cell BK210.out 4).trans rfl; have hcz49_5 : wr.cell? ⟨gb210, 5, none⟩ = some (.string a1_5) := (blk_cell BK210.out 5).trans rfl; have hfz49_0 := blk_frozen BK210.out 0; have hfz49_1 := blk_frozen BK210.out 1; have hfz49_2 := blk_frozen BK210.out 2; have hfz49_3 := blk_frozen BK210.out 3; have hfz49_4 := blk_frozen BK210.out 4; have hfz49_5 := blk_frozen BK210.out 5; have hnb50 := NB209_211.out; have hnc50 := NB211_209.out; have hnb51 := NB209_212.out; have hnc51 := NB212_209.out; have hcz52_0 : wr.cell? ⟨gb209, 0, none⟩ = some (.int .i64 a0_0) := (blk_cell BK209.out 0).trans rfl; have hcz52_1 : wr.cell? ⟨gb209, 1, none⟩ = some (.int .i64 a0_1) := (blk_cell BK209.out 1).trans rfl; have hcz52_2 : wr.cell? ⟨gb209, 2, none⟩ = some (.slice A0_2 l0_2.length c0_2) := (blk_cell BK209.out 2).trans rfl; have hcz52_3 : wr.cell? ⟨gb209, 3, none⟩ = some (.slice A0_3 l0_3.length c0_3) := (blk_cell BK209.out 3).trans rfl; have hfz52_0 := blk_frozen BK209.out 0; have hfz52_1 := blk_frozen BK209.out 1; have hfz52_2 := blk_frozen BK209.out 2; have hfz52_3 := blk_frozen BK209.out 3
                  go_wp2
                  go_meet
                  case rel => exact ⟨_, (decide (a1_1 < a0_1)), (by first | rfl | (simp; done) | (simp [*]; done)), H', ⟨by have := HK1.out; have := HK2.out; first | omega | exact Nat.le_refl _⟩, ⟨by (with_reducible repeat (first | apply Kd.R_alloc | apply Kd.R_drewN | apply Kd.R_drew)); exact HO_213002.out⟩, ⟨by (with_reducible repeat (first | apply Kd.R_alloc | apply Kd.R_drewN | apply Kd.R_drew)); exact HO_213003.out⟩, ⟨by (with_reducible repeat (first | refine blk_drewN ?_ _ | refine blk_drew ?_ | refine blk_alloc ?_ _)); exact BK209.out⟩, ⟨by (with_reducible repeat (first | refine blk_drewN ?_ _ | refine blk_drew ?_ | refine blk_alloc ?_ _)); exact BK210.out⟩, ⟨by (with_reducible repeat (first | refine blk_drewN ?_ _ | refine blk_drew ?_ | refine blk_alloc ?_ _)); exact BK211.out⟩, ⟨by (with_reducible repeat (first | refine blk_drewN ?_ _ | refine blk_drew ?_ | refine blk_alloc ?_ _)); exact BK212.out⟩, ⟨by repeat (first | (with_reducible first | exact HB.out | apply below_alloc | apply q16_ | apply below_drew1 | refine below_set ?_ GE209.out | refine below_set ?_ GE210.out | refine below_set ?_ GE211.out | refine below_set ?_ GE212.out) | exact HB.out)⟩⟩
                · rw [if_neg c45] at H; have c45b0 : (a1_0 == a0_0) = false := beq_eq_false_iff_ne.mpr c45; have c45b1 : (a1_0 != a0_0) = true := bne_iff_ne.mpr c45
                  (first | rw [c45b0] | (simp only [i64_w, i32_w]; rw [c45b0]) | skip)
                  have H' := a16_ H; clear H; have hnb53 := NB210_209.out; have hnc53 := NB209_210.out; have hnb54 := NB210_211.out; have hnc54 := NB211_210.out; have hnb55 := NB210_212.out; have hnc55 := NB212_210.out; have hcz56_0 : wr.cell? ⟨gb210, 0, none⟩ = some (.int .i64 a1_0) := (blk_cell BK210.out 0).trans rfl; have hcz56_1 : wr.cell? ⟨gb210, 1, none⟩ = some (.int .i64 a1_1) := (blk_cell BK210.out 1).trans rfl; have hcz56_2 : wr.cell? ⟨gb210, 2, none⟩ = some (.int .i64 a1_2) := (blk_cell BK210.out 2).trans rfl; have hcz56_3 : wr.cell? ⟨gb210, 3, none⟩ = some (.int .i64 a1_3) := (blk_cell BK210.out 3).trans rfl; have hcz56_4 : wr.cell? ⟨gb210, 4, none⟩ = some (.string a1_4) := (blk_cell BK210.out 4).trans rfl; have hcz56_5 : wr.cell? ⟨gb210, 5, none⟩ = some (.string a1_5) := (blk_cell BK210.out 5).trans rfl; have hfz56_0 := blk_frozen BK210.out 0; have hfz56_1 := blk_frozen BK210.out 1; have hfz56_2 := blk_frozen BK210.out 2; have hfz56_3 := blk_frozen BK210.out 3; have hfz56_4 := blk_frozen BK210.out 4; have hfz56_5 := blk_frozen BK210.out 5; have hnb57 := NB209_211.out; have hnc57 := NB211_209.out; have hnb58 := NB209_212.out; have hnc58 := NB212_209.out; have hcz59_0 : wr.cell? ⟨gb209, 0, none⟩ = some (.int .i64 a0_0) := (blk_cell BK209.out 0).trans rfl; have hcz59_1 : wr.cell? ⟨gb209, 1, none⟩ = some (.int .i64 a0_1) := (blk_cell BK209.out 1).trans rfl; have hcz59_2 : wr.cell? ⟨gb209, 2, none⟩ = some (.slice A0_2 l0_2.length c0_2) := (blk_cell BK209.out 2).trans rfl; have hcz59_3 : wr.cell? ⟨gb209, 3, none⟩ = some (.slice A0_3 l0_3.length c0_3) := (blk_cell BK209.out 3).trans rfl; have hfz59_0 := blk_frozen BK209.out 0; have hfz59_1 := blk_frozen BK209.out 1; have hfz59_2 := blk_frozen BK209.out 2; have hfz59_3 := blk_frozen BK209.out 3
                  go_wp2
                  go_meet
                  case rel => exact ⟨_, (true), (by first | rfl | (simp; done) | (simp [*]; done)), H', ⟨by have := HK1.out; have := HK2.out; first | omega | exact Nat.le_refl _⟩, ⟨by (with_reducible repeat (first | apply Kd.R_alloc | apply Kd.R_drewN | apply Kd.R_drew)); exact HO_213002.out⟩, ⟨by (with_reducible repeat (first | apply Kd.R_alloc | apply Kd.R_drewN | apply Kd.R_drew)); exact HO_213003.out⟩, ⟨by (with_reducible repeat (first | refine blk_drewN ?_ _ | refine blk_drew ?_ | refine blk_alloc ?_ _)); exact BK209.out⟩, ⟨by (with_reducible repeat (first | refine blk_drewN ?_ _ | refine blk_drew ?_ | refine blk_alloc ?_ _)); exact BK210.out⟩, ⟨by (with_reducible repeat (first | refine blk_drewN ?_ _ | refine blk_drew ?_ | refine blk_alloc ?_ _)); exact BK211.out⟩, ⟨by (with_reducible repeat (first | refine blk_drewN ?_ _ | refine blk_drew ?_ | refine blk_alloc ?_ _)); exact BK212.out⟩, ⟨by repeat (first | (with_reducible first | exact HB.out | apply below_alloc | apply q16_ | apply below_drew1 | refine below_set ?_ GE209.out | refine below_set ?_ GE210.out | refine below_set ?_ GE211.out | refine below_set ?_ GE212.out) | exact HB.out)⟩⟩
              case rest =>
                clear HC40
                try clear c1
                try clear c2
                try clear p2
                try clear q2
                try clear hx2
                try clear c3
                try clear c4
                try clear c5
                try clear c6
                try clear p6
                try clear c7
                try clear c10
                try clear c11
                try clear c12
                try clear c14
                try clear c14b0
                try clear c15
                try clear c15b0
                try clear c16
                try clear c17
                try clear c18
                try clear c19
                try clear p21
                try clear q21
                try clear hx21
                try clear c25
                try clear c26
                try clear c27
                try clear c29
                try clear c29b0
                try clear c30
                try clear c30b0
                try clear c31
                try clear c32
                try clear c33
                try clear c34
                try clear c41
                try clear c42
                try clear c43
                try clear c45
                try clear c45b0
                try clear c45b1
                try clear c46
                try clear c47
                try clear c48
                try clear c50
                try clear c51
                try clear c53
                try clear c54
                try clear c55
                try clear c57
                try clear c58
                try clear hcz13_0
                try clear hcz13_1
                try clear hcz13_2
                try clear hcz13_3
                try clear hcz20_0
                try clear hcz20_1
                try clear hcz20_2
                try clear hcz20_3
                try clear hcz28_0
                try clear hcz28_1
                try clear hcz28_2
                try clear hcz28_3
                try clear hcz35_0
                try clear hcz35_1
                try clear hcz35_2
                try clear hcz35_3
                try clear hcz44_0
                try clear hcz44_1
                try clear hcz44_2
                try clear hcz44_3
                try clear hcz49_0
                try clear hcz49_1
                try clear hcz49_2
                try clear hcz49_3
                try clear hcz49_4
                try clear hcz49_5
                try clear hcz52_0
                try clear hcz52_1
                try clear hcz52_2
                try clear hcz52_3
                try clear hcz56_0
                try clear hcz56_1
                try clear hcz56_2
                try clear hcz56_3
                try clear hcz56_4
                try clear hcz56_5
                try clear hcz59_0
                try clear hcz59_1
                try clear hcz59_2
                try clear hcz59_3
                try clear hcz8_0
                try clear hcz8_1
                try clear hcz8_2
                try clear hcz8_3
                try clear hfz13_0
                try clear hfz13_1
                try clear hfz13_2
                try clear hfz13_3
                try clear hfz20_0
                try clear hfz20_1
                try clear hfz20_2
                try clear hfz20_3
                try clear hfz28_0
                try clear hfz28_1
                try clear hfz28_2
                try clear hfz28_3
                try clear hfz35_0
                try clear hfz35_1
                try clear hfz35_2
                try clear hfz35_3
                try clear hfz44_0
                try clear hfz44_1
                try clear hfz44_2
                try clear hfz44_3
                try clear hfz49_0
                try clear hfz49_1
                try clear hfz49_2
                try clear hfz49_3
                try clear hfz49_4
                try clear hfz49_5
                try clear hfz52_0
                try clear hfz52_1
                try clear hfz52_2
                try clear hfz52_3
                try clear hfz56_0
                try clear hfz56_1
                try clear hfz56_2
                try clear hfz56_3
                try clear hfz56_4
                try clear hfz56_5
                try clear hfz59_0
                try clear hfz59_1
                try clear hfz59_2
                try clear hfz59_3
                try clear hfz8_0
                try clear hfz8_1
                try clear hfz8_2
                try clear hfz8_3
                try clear hx213_0
                try clear hx213_1
                try clear hx213_2
                try clear hx213_3
                try clear hx217_0
                try clear hx217_1
                try clear hx217_2
                try clear hx217_3
                try clear hx217_4
                try clear hx217_5
                try clear p2
                try clear p21
                try clear p213
                try clear p217
                try clear p6
                try clear q2
                try clear q21
                try clear q213
                try clear q217
                obtain ⟨kq, x60_39, rfl, HA, HJ39, HO_213002, HO_213003, BK209, BK210, BK211, BK212, HB⟩ := hcut
                cases kq with
                | zero => exact absurd HA.out (by simp [codesearchref49_Receive.j2])
                | succ kj39 =>
                  have H := HA.out; clear HA; simp only [codesearchref49_Receive.j2] at H
                  by_cases c60 : x60_39 = true
                  · subst c60; have H1 : (some (a0_0, a0_1, x213002_1, x213003_2, wrap64 (a0_1 - 1))) = some (r1, r2, r3, r4, r5) := by rw [if_pos rfl] at H; exact H
                    clear H; have H := H1; clear H1; simp only [Option.some.injEq, Prod.mk.injEq] at H; obtain ⟨rfl, rfl, rfl, rfl, rfl⟩ := H
                    try go_wp2
                    replace HO_213002 := a16_ (Kd.R_drew HO_213002.out); replace HO_213003 := a16_ (Kd.R_drew HO_213003.out); replace BK209 := a16_ (blk_drew BK209.out); replace BK210 := a16_ (blk_drew BK210.out); replace BK211 := a16_ (blk_drew BK211.out); replace BK212 := a16_ (blk_drew BK212.out); replace HB := a16_ (below_drew1 HB.out); obtain ⟨Ao64, co64, eo64⟩ := Kd.R_slice HO_213002.out
                    (first | subst eo64 | (injection eo64 with f1_ f2_ f3_; have f4_ := f1_.symm; have f5_ := f3_.symm; clear f1_ f2_ f3_; subst f4_; subst f5_))
                    obtain ⟨Ao66, co66, eo66⟩ := Kd.R_slice HO_213003.out
                    (first | subst eo66 | (injection eo66 with f1_ f2_ f3_; have f4_ := f1_.symm; have f5_ := f3_.symm; clear f1_ f2_ f3_; subst f4_; subst f5_))
                    refine start_ (n := 6) (S := fun w' => w'.cell? ⟨gb212, 0, none⟩ = some (.int .i64 a0_0) ∧ w'.cell? ⟨gb212, 1, none⟩ = some (.int .i64 a0_1) ∧ w'.cell? ⟨gb212, 2, none⟩ = some (.slice Ao64 x213002_1.length co64) ∧ w'.cell? ⟨gb212, 3, none⟩ = some (.slice Ao66 x213003_2.length co66)) (ds := []) b16_12 (by kernel_rfl) rfl rfl ⟨(blk_cell BK212.out 0).trans rfl, (blk_cell BK212.out 1).trans rfl, (blk_cell BK212.out 2).trans rfl, (blk_cell BK212.out 3).trans rfl⟩ (fun hHeld => ?_)
                    generalize wc.drew = w61 at HO_213002 HO_213003 BK209 BK210 BK211 BK212 HB hHeld ⊢
                    refine pure_ (i := 1) (N := some 62) (v := ?_) (a' := ?_) b16_13 rfl rfl (by kernel_rfl) (fun _ _ _ h => h) (Or.inl ⟨by rfl, ?_⟩) ?_ ?_; rotate_left
                    · intro w'; go_simp
                      with_reducible rfl
                    rotate_left
                    · simp only [Act.put, sT16_, sZ16_, sS16_, i64_w, i32_w]; rfl
                    refine take_ (i := 0) (N := some 61) (v := ?_) (a' := ?_) b16_14 rfl rfl (by kernel_rfl) (fun _ _ _ h => h) (Or.inl ⟨by rfl, ?_⟩) hHeld ?_ ?_; rotate_left
                    · rintro w' ⟨s0, s1, s2, s3⟩; go_simp
                      with_reducible rfl
                    rotate_left
                    · simp only [Act.put, sT16_, sZ16_, sS16_, i64_w, i32_w]; rfl
                    refine take_ (i := 2) (N := some 63) (v := ?_) (a' := ?_) b16_15 rfl rfl (by kernel_rfl) (fun _ _ _ h => h) (Or.inl ⟨by rfl, ?_⟩) hHeld ?_ ?_; rotate_left
                    · rintro w' ⟨s0, s1, s2, s3⟩; go_simp
                      with_reducible rfl
                    rotate_left
                    · simp only [Act.put, sT16_, sZ16_, sS16_, i64_w, i32_w]; rfl
                    refine pure_ (i := 3) (N := some 64) (v := ?_) (a' := ?_) b16_16 rfl rfl (by kernel_rfl) (fun _ _ _ h => h) (Or.inl ⟨by rfl, ?_⟩) ?_ ?_; rotate_left
                    · intro w'; go_simp
                      with_reducible rfl
                    rotate_left
                    · simp only [Act.put, sT16_, sZ16_, sS16_, i64_w, i32_w]; rfl
                    refine one_ (i := 4) (N := none) b16_17 rfl rfl (by kernel_rfl) (by decide) (fun K hK => ?_); have hs62 : w61.cell? ⟨gb211, 0, none⟩ = some (.int .i64 0) := (blk_cell BK211.out 0).trans rfl; have hfs62 := blk_frozen BK211.out 0; have hns62_0 := NB209_211.out; have hns62_1 := NB210_211.out; have hns62_3 := NB212_211.out; have hms62_0 := NB211_209.out; have hms62_1 := NB211_210.out; have hms62_3 := NB211_212.out; have hs63 : w61.cell? ⟨gb211, 1, none⟩ = some (.int .i64 0) := (blk_cell BK211.out 1).trans rfl; have hfs63 := blk_frozen BK211.out 1; have hns63_0 := NB209_211.out; have hns63_1 := NB210_211.out; have hns63_3 := NB212_211.out; have hms63_0 := NB211_209.out; have hms63_1 := NB211_210.out; have hms63_3 := NB211_212.out; have hs65 : w61.cell? ⟨gb211, 2, none⟩ = some (.slice none 0 0) := (blk_cell BK211.out 2).trans rfl; have hfs65 := blk_frozen BK211.out 2; have hns65_0 := NB209_211.out; have hns65_1 := NB210_211.out; have hns65_3 := NB212_211.out; have hms65_0 := NB211_209.out; have hms65_1 := NB211_210.out; have hms65_3 := NB211_212.out; have hs67 : w61.cell? ⟨gb211, 3, none⟩ = some (.slice none 0 0) := (blk_cell BK211.out 3).trans rfl; have hfs67 := blk_frozen BK211.out 3; have hns67_0 := NB209_211.out; have hns67_1 := NB210_211.out; have hns67_3 := NB212_211.out; have hms67_0 := NB211_209.out; have hms67_1 := NB211_210.out; have hms67_3 := NB211_212.out; refine skip_ (w1 := ?_) (by rfl) rfl ?_ ?_; rotate_left
                    · go_simp
                      rfl
                    refine hK.out _ _ ⟨((cell_far (p := ⟨gb211, _, none⟩) NB212_211.out _).trans (((cell_far (p := ⟨gb211, _, none⟩) NB212_211.out _).trans (((cell_far (p := ⟨gb211, _, none⟩) NB212_211.out _).trans (((cell_far (p := ⟨gb211, _, none⟩) NB212_211.out _).trans (hHeld.1)))))))), ((cell_far (p := ⟨gb211, _, none⟩) NB212_211.out _).trans (((cell_far (p := ⟨gb211, _, none⟩) NB212_211.out _).trans (((cell_far (p := ⟨gb211, _, none⟩) NB212_211.out _).trans (((cell_far (p := ⟨gb211, _, none⟩) NB212_211.out _).trans (hHeld.2.1)))))))), ((cell_far (p := ⟨gb211, _, none⟩) NB212_211.out _).trans (((cell_far (p := ⟨gb211, _, none⟩) NB212_211.out _).trans (((cell_far (p := ⟨gb211, _, none⟩) NB212_211.out _).trans (((cell_far (p := ⟨gb211, _, none⟩) NB212_211.out _).trans (hHeld.2.2.1)))))))), ((cell_far (p := ⟨gb211, _, none⟩) NB212_211.out _).trans (((cell_far (p := ⟨gb211, _, none⟩) NB212_211.out _).trans (((cell_far (p := ⟨gb211, _, none⟩) NB212_211.out _).trans (((cell_far (p := ⟨gb211, _, none⟩) NB212_211.out _).trans (hHeld.2.2.2))))))))⟩ (fun hHeld => ?_); clear hK K; refine pure_ (i := 5) (N := some 5) (v := ?_) (a' := ?_) b16_18 rfl rfl (by kernel_rfl) (fun _ _ _ h => h) (Or.inl ⟨by rfl, ?_⟩) ?_ ?_; rotate_left
                    · intro w'; go_simp
                      with_reducible rfl
                    rotate_left
                    · simp only [Act.put, sT16_, sZ16_, sS16_, i64_w, i32_w]; rfl
                    refine done_ (by kernel_rfl) ?_
                    try go_wp2
                    refine bodyPost_ret (results_ct rfl _ _ gb211 34 #[.int .i64 a0_0, .int .i64 a0_1, .slice Ao64 x213002_1.length co64, .slice Ao66 x213003_2.length co66] (0, 0) _ rfl (by (with_reducible repeat (first | refine blk_drewN ?_ _ | refine blk_drew ?_ | refine blk_alloc ?_ _)); refine blk_put (cs := #[.int .i64 a0_0, .int .i64 a0_1, .slice Ao64 x213002_1.length co64, .slice none 0 0]) ?_ 3 _ rfl; (with_reducible repeat (first | refine blk_drewN ?_ _ | refine blk_drew ?_ | refine blk_alloc ?_ _)); refine blk_put (cs := #[.int .i64 a0_0, .int .i64 a0_1, .slice none 0 0, .slice none 0 0]) ?_ 2 _ rfl; (with_reducible repeat (first | refine blk_drewN ?_ _ | refine blk_drew ?_ | refine blk_alloc ?_ _)); refine blk_put (cs := #[.int .i64 a0_0, .int .i64 0, .slice none 0 0, .slice none 0 0]) ?_ 1 _ rfl; (with_reducible repeat (first | refine blk_drewN ?_ _ | refine blk_drew ?_ | refine blk_alloc ?_ _)); refine blk_put (cs := #[.int .i64 0, .int .i64 0, .slice none 0 0, .slice none 0 0]) ?_ 0 _ rfl; (with_reducible repeat (first | refine blk_drewN ?_ _ | refine blk_drew ?_ | refine blk_alloc ?_ _)); exact BK211.out) Try.underlying34 rfl (by kernel_rfl)) rfl ?_; exact ⟨_, _, by first | rfl | (simp [errW_none, errW_some] <;> rfl) | (simp [*, errW_none, errW_some] <;> rfl), by (with_reducible repeat (first | apply Kd.R_alloc | apply Kd.R_drewN | apply Kd.R_drew)); exact Kd.R_mono (Kd.R_far (p := ⟨gb211, 3, none⟩) (Kd.R_far (p := ⟨gb211, 2, none⟩) (Kd.R_far (p := ⟨gb211, 1, none⟩) (Kd.R_far (p := ⟨gb211, 0, none⟩) (Kd.R_types HO_213002.out BK211.out (by decide)) (fun _ hk => hk.2) (.int .i64 a0_0)) (fun _ hk => hk.2) (.int .i64 a0_1)) (fun _ hk => hk.2) (.slice Ao64 x213002_1.length co64)) (fun _ hk => hk.2) (.slice Ao66 x213003_2.length co66)) (fun _ hk => trivial), by (with_reducible repeat (first | apply Kd.R_alloc | apply Kd.R_drewN | apply Kd.R_drew)); exact Kd.R_mono (Kd.R_far (p := ⟨gb211, 3, none⟩) (Kd.R_far (p := ⟨gb211, 2, none⟩) (Kd.R_far (p := ⟨gb211, 1, none⟩) (Kd.R_far (p := ⟨gb211, 0, none⟩) (Kd.R_types HO_213003.out BK211.out (by decide)) (fun _ hk => hk.2) (.int .i64 a0_0)) (fun _ hk => hk.2) (.int .i64 a0_1)) (fun _ hk => hk.2) (.slice Ao64 x213002_1.length co64)) (fun _ hk => hk.2) (.slice Ao66 x213003_2.length co66)) (fun _ hk => trivial), by repeat (first | (with_reducible first | exact HB.out | apply below_alloc | apply q16_ | apply below_drew1 | refine below_set ?_ GE209.out | refine below_set ?_ GE210.out | refine below_set ?_ GE211.out | refine below_set ?_ GE212.out) | exact HB.out)⟩
                  · replace c60 := Bool.eq_false_iff.mpr c60; subst c60; have H1 : (if a1_1 > a0_1 then ((codesearchref49_waits.f kj39 x213003_2 a1_1).bind fun t221 => (if t221 < 0 then ((codesearchref49_put.f kj39 x213003_2 a1_0 a1_1 a1_2 a1_3 a1_4 a1_5).bind fun t222 => (some (a0_0, a0_1, x213002_1, t222, wrap64 (a0_1 - 1)))) else (some (a0_0, a0_1, x213002_1, x213003_2, wrap64 (a0_1 - 1))))) else (if x213002_1.length < 2932031007402 then ((codesearchref49_waits.f kj39 x213003_2 (wrap64 (a0_1 + 1))).bind fun t228 => (codesearchref49_Receive.l2 kj39 t228 a0_0 (wrap64 (a0_1 + 1)) (x213002_1 ++ [(⟨a1_2, a1_3, a1_4, a1_5⟩ : S36)]) x213003_2)) else (none))) = some (r1, r2, r3, r4, r5) := by rw [if_neg (show ¬ (false = true) by decide)] at H; exact H
                    clear H; have H := H1; clear H1
                    by_cases c68 : a1_1 > a0_1
                    · rw [if_pos c68] at H; have c68b0 : decide (a0_1 < a1_1) = true := decide_eq_true c68; clear c68; replace H := Option.bind_eq_some_iff.mp H; obtain ⟨t221, A690, H⟩ := H; replace H : (if t221 < 0 then ((codesearchref49_put.f kj39 x213003_2 a1_0 a1_1 a1_2 a1_3 a1_4 a1_5).bind fun t222 => (some (a0_0, a0_1, x213002_1, t222, wrap64 (a0_1 - 1)))) else (some (a0_0, a0_1, x213002_1, x213003_2, wrap64 (a0_1 - 1)))) = some (r1, r2, r3, r4, r5) := H; have A69 := a16_ A690; clear A690
                      by_cases c70 : t221 < 0
                      · rw [if_pos c70] at H; have c70b0 : decide (t221 < 0) = true := decide_eq_true c70; clear c70; replace H := Option.bind_eq_some_iff.mp H; obtain ⟨t222, A710, H⟩ := H; replace H : (some (a0_0, a0_1, x213002_1, t222, wrap64 (a0_1 - 1))) = some (r1, r2, r3, r4, r5) := H; have A71 := a16_ A710; clear A710; simp only [Option.some.injEq, Prod.mk.injEq] at H; obtain ⟨rfl, rfl, rfl, rfl, rfl⟩ := H; have hnb72 := NB210_209.out; have hnc72 := NB209_210.out; have hnb73 := NB210_211.out; have hnc73 := NB211_210.out; have hnb74 := NB210_212.out; have hnc74 := NB212_210.out; have hcz75_0 : wc.cell? ⟨gb210, 0, none⟩ = some (.int .i64 a1_0) := (blk_cell BK210.out 0).trans rfl; have hcz75_1 : wc.cell? ⟨gb210, 1, none⟩ = some (.int .i64 a1_1) := (blk_cell BK210.out 1).trans rfl; have hcz75_2 : wc.cell? ⟨gb210, 2, none⟩ = some (.int .i64 a1_2) := (blk_cell BK210.out 2).trans rfl; have hcz75_3 : wc.cell? ⟨gb210, 3, none⟩ = some (.int .i64 a1_3) := (blk_cell BK210.out 3).trans rfl; have hcz75_4 : wc.cell? ⟨gb210, 4, none⟩ = some (.string a1_4) := (blk_cell BK210.out 4).trans rfl; have hcz75_5 : wc.cell? ⟨gb210, 5, none⟩ = some (.string a1_5) := (blk_cell BK210.out 5).trans rfl; have hfz75_0 := blk_frozen BK210.out 0; have hfz75_1 := blk_frozen BK210.out 1; have hfz75_2 := blk_frozen BK210.out 2; have hfz75_3 := blk_frozen BK210.out 3; have hfz75_4 := blk_frozen BK210.out 4; have hfz75_5 := blk_frozen BK210.out 5; have hnb76 := NB209_211.out; have hnc76 := NB211_209.out; have hnb77 := NB209_212.out; have hnc77 := NB212_209.out; have hcz78_0 : wc.cell? ⟨gb209, 0, none⟩ = some (.int .i64 a0_0) := (blk_cell BK209.out 0).trans rfl; have hcz78_1 : wc.cell? ⟨gb209, 1, none⟩ = some (.int .i64 a0_1) := (blk_cell BK209.out 1).trans rfl; have hcz78_2 : wc.cell? ⟨gb209, 2, none⟩ = some (.slice A0_2 l0_2.length c0_2) := (blk_cell BK209.out 2).trans rfl; have hcz78_3 : wc.cell? ⟨gb209, 3, none⟩ = some (.slice A0_3 l0_3.length c0_3) := (blk_cell BK209.out 3).trans rfl; have hfz78_0 := blk_frozen BK209.out 0; have hfz78_1 := blk_frozen BK209.out 1; have hfz78_2 := blk_frozen BK209.out 2; have hfz78_3 := blk_frozen BK209.out 3; have hnb79 := NB212_211.out; have hnc79 := NB211_212.out; have hcz80_0 : wc.cell? ⟨gb212, 0, none⟩ = some (.int .i64 a0_0) := (blk_cell BK212.out 0).trans rfl; have hcz80_1 : wc.cell? ⟨gb212, 1, none⟩ = some (.int .i64 a0_1) := (blk_cell BK212.out 1).trans rfl; have hcz80_2 : wc.cell? ⟨gb212, 2, none⟩ = some (u213002) := (blk_cell BK212.out 2).trans rfl; have hcz80_3 : wc.cell? ⟨gb212, 3, none⟩ = some (u213003) := (blk_cell BK212.out 3).trans rfl; have hfz80_0 := blk_frozen BK212.out 0; have hfz80_1 := blk_frozen BK212.out 1; have hfz80_2 := blk_frozen BK212.out 2; have hfz80_3 := blk_frozen BK212.out 3; obtain ⟨Ao81, co81, eo81⟩ := Kd.R_slice HO_213003.out; subst eo81
                        try go_wp2_with (first | ((with_reducible refine gate_callee (f := 35) rfl ?_); refine goesL_ (some 74) rfl rfl Try.func35 (by kernel_rfl) rfl #[.slice Ao81 x213003_2.length co81, .int .i64 a1_1] rfl (by (try simp only [List.map_toArray, List.map_cons, List.map_nil]); first | done | rfl | (simp only [List.length_drop, List.length_take]; rfl)) ?_; (with_reducible refine (codesearchref49_waits.calls kj39 _ _ x213003_2 a1_1 t221 _ ?side1 ?side2 A69.out).mono ?_); (case side1 => repeat (first | exact (Kd.R_reads' HO_213003.out).2.2 | (with_reducible refine Kd.C_alloc ?_ _) | (with_reducible refine Kd.C_drewN ?_ _) | (with_reducible refine Kd.C_drew ?_))); (case side2 => exact (Kd.R_reads' HO_213003.out).2.1); rintro e w' ⟨rfl, ⟨nd, rfl⟩⟩; refine ⟨_, rfl, ?_⟩) | ((with_reducible refine gate_callee (f := 36) rfl ?_); refine goesL_ (some 79) rfl rfl Try.func36 (by kernel_rfl) rfl #[.slice Ao81 x213003_2.length co81, .agg #[.int .i64 a1_0, .int .i64 a1_1, .int .i64 a1_2, .int .i64 a1_3, .string a1_4, .string a1_5]] rfl (by (try simp only [List.map_toArray, List.map_cons, List.map_nil]); first | done | rfl | (simp only [List.length_drop, List.length_take]; rfl)) ?_; (with_reducible refine (codesearchref49_put.calls kj39 _ _ x213003_2 a1_0 a1_1 a1_2 a1_3 a1_4 a1_5 t222 _ ?side1 ?side2 A71.out).mono ?_); (case side1 => repeat (first | exact (Kd.R_reads' HO_213003.out).2.2 | (with_reducible refine Kd.C_alloc ?_ _) | (with_reducible refine Kd.C_drewN ?_ _) | (with_reducible refine Kd.C_drew ?_))); (case side2 => exact (Kd.R_reads' HO_213003.out).2.1); rintro e w82 ⟨v223, rfl, ho0, hb⟩; refine ⟨_, rfl, ?_⟩; replace HO_213002 := a16_ (Kd.R_below (r16_ HO_213002.out) hb); have HO224 := a16_ (Kd.R_lower (Kd.R_newB (Kd.R_new' ho0 (Kd.R_lt (r16_ HO_213003.out))) (g := gb210) (o := .cells #[.int .i64 a1_0, .int .i64 a1_1, .int .i64 a1_2, .int .i64 a1_3, .string a1_4, .string a1_5] 38 (0, 0)) (k16_ BK210.out)) (below_size z16_)); replace HO_213003 := a16_ (Kd.R_elder' (r16_ HO_213003.out) (Kd.R_base ho0) hb); replace BK209 := a16_ (blk_below (k16_ BK209.out) hb); replace BK210 := a16_ (blk_below (k16_ BK210.out) hb); replace BK211 := a16_ (blk_below (k16_ BK211.out) hb); replace BK212 := a16_ (blk_below (k16_ BK212.out) hb); replace HB := a16_ (below_step z16_ hb); (try clear hb); (try clear hb2); (try clear hk); (try clear hi); (try clear ho0); obtain ⟨Ao83, co83, eo83⟩ := Kd.R_slice HO224.out; subst eo83; have hcz84_0 : w82.cell? ⟨gb212, 0, none⟩ = some (.int .i64 a0_0) := (blk_cell BK212.out 0).trans rfl; have hcz84_1 : w82.cell? ⟨gb212, 1, none⟩ = some (.int .i64 a0_1) := (blk_cell BK212.out 1).trans rfl; have hcz84_2 : w82.cell? ⟨gb212, 2, none⟩ = some (u213002) := (blk_cell BK212.out 2).trans rfl; have hcz84_3 : w82.cell? ⟨gb212, 3, none⟩ = some (.slice Ao81 x213003_2.length co81) := (blk_cell BK212.out 3).trans rfl; have hfz84_0 := blk_frozen BK212.out 0; have hfz84_1 := blk_frozen BK212.out 1; have hfz84_2 := blk_frozen BK212.out 2; have hfz84_3 := blk_frozen BK212.out 3))
                        have n0_ : Aside0 (Kd.R k36 36 (w82.setCell ⟨gb212, 3, none⟩ (.slice Ao83 t222.length co83)) w.heap.size (fun _ => True) u213002 x213002_1) := ⟨by (with_reducible repeat (first | apply Kd.R_alloc | apply Kd.R_drewN | apply Kd.R_drew)); exact Kd.R_mono (Kd.R_far (p := ⟨gb212, 3, none⟩) (Kd.R_types HO_213002.out BK212.out (by decide)) (fun _ hk => hk.2) (.slice Ao83 t222.length co83)) (fun _ hk => trivial)⟩; have n1_ : Aside0 (Kd.R k38 38 (w82.setCell ⟨gb212, 3, none⟩ (.slice Ao83 t222.length co83)) w.heap.size (fun k_ => some k_ ≠ (.slice Ao83 t222.length co83 : Value).ownBlock ∧ k_ ≠ gb210) (.slice Ao81 x213003_2.length co81) x213003_2) := ⟨by (with_reducible repeat (first | apply Kd.R_alloc | apply Kd.R_drewN | apply Kd.R_drew)); exact Kd.R_mono (Kd.R_far (p := ⟨gb212, 3, none⟩) (Kd.R_types HO_213003.out BK212.out (by decide)) (fun _ hk => hk.2) (.slice Ao83 t222.length co83)) (fun _ hk => ⟨hk.1.2, hk.1.1⟩)⟩; have n2_ : Aside0 (Kd.R k38 38 (w82.setCell ⟨gb212, 3, none⟩ (.slice Ao83 t222.length co83)) w.heap.size (fun k_ => some k_ ≠ (.slice Ao81 x213003_2.length co81 : Value).ownBlock ∧ k_ ≠ gb210) (.slice Ao83 t222.length co83) t222) := ⟨by (with_reducible repeat (first | apply Kd.R_alloc | apply Kd.R_drewN | apply Kd.R_drew)); exact Kd.R_mono (Kd.R_far (p := ⟨gb212, 3, none⟩) (Kd.R_types HO224.out BK212.out (by decide)) (fun _ hk => hk.2) (.slice Ao83 t222.length co83)) (fun _ hk => ⟨hk.1.1.2, hk.1.2⟩)⟩; have n3_ : Aside0 ((w82.setCell ⟨gb212, 3, none⟩ (.slice Ao83 t222.length co83)).heap[gb209]? = some (.cells #[.int .i64 a0_0, .int .i64 a0_1, .slice A0_2 l0_2.length c0_2, .slice A0_3 l0_3.length c0_3] 34 (0, 0))) := ⟨by (with_reducible repeat (first | refine blk_drewN ?_ _ | refine blk_drew ?_ | refine blk_alloc ?_ _)); refine blk_far ?_ NB209_212.out _; (with_reducible repeat (first | refine blk_drewN ?_ _ | refine blk_drew ?_ | refine blk_alloc ?_ _)); exact BK209.out⟩; have n4_ : Aside0 ((w82.setCell ⟨gb212, 3, none⟩ (.slice Ao83 t222.length co83)).heap[gb210]? = some (.cells #[.int .i64 a1_0, .int .i64 a1_1, .int .i64 a1_2, .int .i64 a1_3, .string a1_4, .string a1_5] 38 (0, 0))) := ⟨by (with_reducible repeat (first | refine blk_drewN ?_ _ | refine blk_drew ?_ | refine blk_alloc ?_ _)); refine blk_far ?_ NB210_212.out _; (with_reducible repeat (first | refine blk_drewN ?_ _ | refine blk_drew ?_ | refine blk_alloc ?_ _)); exact BK210.out⟩; have n5_ : Aside0 ((w82.setCell ⟨gb212, 3, none⟩ (.slice Ao83 t222.length co83)).heap[gb211]? = some (.cells #[.int .i64 0, .int .i64 0, .slice none 0 0, .slice none 0 0] 34 (0, 0))) := ⟨by (with_reducible repeat (first | refine blk_drewN ?_ _ | refine blk_drew ?_ | refine blk_alloc ?_ _)); refine blk_far ?_ NB211_212.out _; (with_reducible repeat (first | refine blk_drewN ?_ _ | refine blk_drew ?_ | refine blk_alloc ?_ _)); exact BK211.out⟩; have n6_ : Aside0 ((w82.setCell ⟨gb212, 3, none⟩ (.slice Ao83 t222.length co83)).heap[gb212]? = some (.cells #[.int .i64 a0_0, .int .i64 a0_1, u213002, .slice Ao83 t222.length co83] 34 (0, 0))) := ⟨by (with_reducible repeat (first | refine blk_drewN ?_ _ | refine blk_drew ?_ | refine blk_alloc ?_ _)); refine blk_put (cs := #[.int .i64 a0_0, .int .i64 a0_1, u213002, .slice Ao81 x213003_2.length co81]) ?_ 3 _ rfl; (with_reducible repeat (first | refine blk_drewN ?_ _ | refine blk_drew ?_ | refine blk_alloc ?_ _)); exact BK212.out⟩; have n7_ : Aside0 (Below w.heap.size w (w82.setCell ⟨gb212, 3, none⟩ (.slice Ao83 t222.length co83))) := ⟨by repeat (first | (with_reducible first | exact HB.out | apply below_alloc | apply q16_ | apply below_drew1 | refine below_set ?_ GE209.out | refine below_set ?_ GE210.out | refine below_set ?_ GE211.out | refine below_set ?_ GE212.out) | exact HB.out)⟩
                        (try clear HO_213002)
                        (try clear HO_213003)
                        (try clear HO224)
                        (try clear BK209)
                        (try clear BK210)
                        (try clear BK211)
                        (try clear BK212)
                        (try clear HB)
                        generalize (w82.setCell ⟨gb212, 3, none⟩ (.slice Ao83 t222.length co83)) = w85 at n0_ n1_ n2_ n3_ n4_ n5_ n6_ n7_ ⊢
                        have HO_213002 := n0_; have HO_213003 := n1_; have HO224 := n2_; have BK209 := n3_; have BK210 := n4_; have BK211 := n5_; have BK212 := n6_; have HB := n7_; clear n0_ n1_ n2_ n3_ n4_ n5_ n6_ n7_; replace HO_213002 := a16_ (Kd.R_drew HO_213002.out); replace HO_213003 := a16_ (Kd.R_drew HO_213003.out); replace HO224 := a16_ (Kd.R_drew HO224.out); replace BK209 := a16_ (blk_drew BK209.out); replace BK210 := a16_ (blk_drew BK210.out); replace BK211 := a16_ (blk_drew BK211.out); replace BK212 := a16_ (blk_drew BK212.out); replace HB := a16_ (below_drew1 HB.out); obtain ⟨Ao89, co89, eo89⟩ := Kd.R_slice HO_213002.out
                        (first | subst eo89 | (injection eo89 with f1_ f2_ f3_; have f4_ := f1_.symm; have f5_ := f3_.symm; clear f1_ f2_ f3_; subst f4_; subst f5_))
                        refine start_ (n := 6) (S := fun w' => w'.cell? ⟨gb212, 0, none⟩ = some (.int .i64 a0_0) ∧ w'.cell? ⟨gb212, 1, none⟩ = some (.int .i64 a0_1) ∧ w'.cell? ⟨gb212, 2, none⟩ = some (.slice Ao89 x213002_1.length co89) ∧ w'.cell? ⟨gb212, 3, none⟩ = some (.slice Ao83 t222.length co83)) (ds := []) b16_12 (by kernel_rfl) rfl rfl ⟨(blk_cell BK212.out 0).trans rfl, (blk_cell BK212.out 1).trans rfl, (blk_cell BK212.out 2).trans rfl, (blk_cell BK212.out 3).trans rfl⟩ (fun hHeld => ?_)
                        generalize w85.drew = w86 at HO_213002 HO_213003 HO224 BK209 BK210 BK211 BK212 HB hHeld ⊢
                        refine pure_ (i := 1) (N := some 82) (v := ?_) (a' := ?_) b16_13 rfl rfl (by kernel_rfl) (fun _ _ _ h => h) (Or.inl ⟨by rfl, ?_⟩) ?_ ?_; rotate_left
                        · intro w'; go_simp
                          with_reducible rfl
                        rotate_left
                        · simp only [Act.put, sT16_, sZ16_, sS16_, i64_w, i32_w]; rfl
                        refine take_ (i := 0) (N := some 81) (v := ?_) (a' := ?_) b16_14 rfl rfl (by kernel_rfl) (fun _ _ _ h => h) (Or.inl ⟨by rfl, ?_⟩) hHeld ?_ ?_; rotate_left
                        · rintro w' ⟨s0, s1, s2, s3⟩; go_simp
                          with_reducible rfl
                        rotate_left
                        · simp only [Act.put, sT16_, sZ16_, sS16_, i64_w, i32_w]; rfl
                        refine take_ (i := 2) (N := some 83) (v := ?_) (a' := ?_) b16_15 rfl rfl (by kernel_rfl) (fun _ _ _ h => h) (Or.inl ⟨by rfl, ?_⟩) hHeld ?_ ?_; rotate_left
                        · rintro w' ⟨s0, s1, s2, s3⟩; go_simp
                          with_reducible rfl
                        rotate_left
                        · simp only [Act.put, sT16_, sZ16_, sS16_, i64_w, i32_w]; rfl
                        refine pure_ (i := 3) (N := some 84) (v := ?_) (a' := ?_) b16_16 rfl rfl (by kernel_rfl) (fun _ _ _ h => h) (Or.inl ⟨by rfl, ?_⟩) ?_ ?_; rotate_left
                        · intro w'; go_simp
                          with_reducible rfl
                        rotate_left
                        · simp only [Act.put, sT16_, sZ16_, sS16_, i64_w, i32_w]; rfl
                        refine one_ (i := 4) (N := none) b16_17 rfl rfl (by kernel_rfl) (by decide) (fun K hK => ?_); have hs87 : w86.cell? ⟨gb211, 0, none⟩ = some (.int .i64 0) := (blk_cell BK211.out 0).trans rfl; have hfs87 := blk_frozen BK211.out 0; have hns87_0 := NB209_211.out; have hns87_1 := NB210_211.out; have hns87_3 := NB212_211.out; have hms87_0 := NB211_209.out; have hms87_1 := NB211_210.out; have hms87_3 := NB211_212.out; have hs88 : w86.cell? ⟨gb211, 1, none⟩ = some (.int .i64 0) := (blk_cell BK211.out 1).trans rfl; have hfs88 := blk_frozen BK211.out 1; have hns88_0 := NB209_211.out; have hns88_1 := NB210_211.out; have hns88_3 := NB212_211.out; have hms88_0 := NB211_209.out; have hms88_1 := NB211_210.out; have hms88_3 := NB211_212.out; have hs90 : w86.cell? ⟨gb211, 2, none⟩ = some (.slice none 0 0) := (blk_cell BK211.out 2).trans rfl; have hfs90 := blk_frozen BK211.out 2; have hns90_0 := NB209_211.out; have hns90_1 := NB210_211.out; have hns90_3 := NB212_211.out; have hms90_0 := NB211_209.out; have hms90_1 := NB211_210.out; have hms90_3 := NB211_212.out; have hs91 : w86.cell? ⟨gb211, 3, none⟩ = some (.slice none 0 0) := (blk_cell BK211.out 3).trans rfl; have hfs91 := blk_frozen BK211.out 3; have hns91_0 := NB209_211.out; have hns91_1 := NB210_211.out; have hns91_3 := NB212_211.out; have hms91_0 := NB211_209.out; have hms91_1 := NB211_210.out; have hms91_3 := NB211_212.out; refine skip_ (w1 := ?_) (by rfl) rfl ?_ ?_; rotate_left
                        · go_simp
                          rfl
                        refine hK.out _ _ ⟨((cell_far (p := ⟨gb211, _, none⟩) NB212_211.out _).trans (((cell_far (p := ⟨gb211, _, none⟩) NB212_211.out _).trans (((cell_far (p := ⟨gb211, _, none⟩) NB212_211.out _).trans (((cell_far (p := ⟨gb211, _, none⟩) NB212_211.out _).trans (hHeld.1)))))))), ((cell_far (p := ⟨gb211, _, none⟩) NB212_211.out _).trans (((cell_far (p := ⟨gb211, _, none⟩) NB212_211.out _).trans (((cell_far (p := ⟨gb211, _, none⟩) NB212_211.out _).trans (((cell_far (p := ⟨gb211, _, none⟩) NB212_211.out _).trans (hHeld.2.1)))))))), ((cell_far (p := ⟨gb211, _, none⟩) NB212_211.out _).trans (((cell_far (p := ⟨gb211, _, none⟩) NB212_211.out _).trans (((cell_far (p := ⟨gb211, _, none⟩) NB212_211.out _).trans (((cell_far (p := ⟨gb211, _, none⟩) NB212_211.out _).trans (hHeld.2.2.1)))))))), ((cell_far (p := ⟨gb211, _, none⟩) NB212_211.out _).trans (((cell_far (p := ⟨gb211, _, none⟩) NB212_211.out _).trans (((cell_far (p := ⟨gb211, _, none⟩) NB212_211.out _).trans (((cell_far (p := ⟨gb211, _, none⟩) NB212_211.out _).trans (hHeld.2.2.2))))))))⟩ (fun hHeld => ?_); clear hK K; refine pure_ (i := 5) (N := some 5) (v := ?_) (a' := ?_) b16_18 rfl rfl (by kernel_rfl) (fun _ _ _ h => h) (Or.inl ⟨by rfl, ?_⟩) ?_ ?_; rotate_left
                        · intro w'; go_simp
                          with_reducible rfl
                        rotate_left
                        · simp only [Act.put, sT16_, sZ16_, sS16_, i64_w, i32_w]; rfl
                        refine done_ (by kernel_rfl) ?_
                        try go_wp2
                        refine bodyPost_ret (results_ct rfl _ _ gb211 34 #[.int .i64 a0_0, .int .i64 a0_1, .slice Ao89 x213002_1.length co89, .slice Ao83 t222.length co83] (0, 0) _ rfl (by (with_reducible repeat (first | refine blk_drewN ?_ _ | refine blk_drew ?_ | refine blk_alloc ?_ _)); refine blk_put (cs := #[.int .i64 a0_0, .int .i64 a0_1, .slice Ao89 x213002_1.length co89, .slice none 0 0]) ?_ 3 _ rfl; (with_reducible repeat (first | refine blk_drewN ?_ _ | refine blk_drew ?_ | refine blk_alloc ?_ _)); refine blk_put (cs := #[.int .i64 a0_0, .int .i64 a0_1, .slice none 0 0, .slice none 0 0]) ?_ 2 _ rfl; (with_reducible repeat (first | refine blk_drewN ?_ _ | refine blk_drew ?_ | refine blk_alloc ?_ _)); refine blk_put (cs := #[.int .i64 a0_0, .int .i64 0, .slice none 0 0, .slice none 0 0]) ?_ 1 _ rfl; (with_reducible repeat (first | refine blk_drewN ?_ _ | refine blk_drew ?_ | refine blk_alloc ?_ _)); refine blk_put (cs := #[.int .i64 0, .int .i64 0, .slice none 0 0, .slice none 0 0]) ?_ 0 _ rfl; (with_reducible repeat (first | refine blk_drewN ?_ _ | refine blk_drew ?_ | refine blk_alloc ?_ _)); exact BK211.out) Try.underlying34 rfl (by kernel_rfl)) rfl ?_; exact ⟨_, _, by first | rfl | (simp [errW_none, errW_some] <;> rfl) | (simp [*, errW_none, errW_some] <;> rfl), by (with_reducible repeat (first | apply Kd.R_alloc | apply Kd.R_drewN | apply Kd.R_drew)); exact Kd.R_mono (Kd.R_far (p := ⟨gb211, 3, none⟩) (Kd.R_far (p := ⟨gb211, 2, none⟩) (Kd.R_far (p := ⟨gb211, 1, none⟩) (Kd.R_far (p := ⟨gb211, 0, none⟩) (Kd.R_types HO_213002.out BK211.out (by decide)) (fun _ hk => hk.2) (.int .i64 a0_0)) (fun _ hk => hk.2) (.int .i64 a0_1)) (fun _ hk => hk.2) (.slice Ao89 x213002_1.length co89)) (fun _ hk => hk.2) (.slice Ao83 t222.length co83)) (fun _ hk => trivial), by (with_reducible repeat (first | apply Kd.R_alloc | apply Kd.R_drewN | apply Kd.R_drew)); exact Kd.R_mono (Kd.R_far (p := ⟨gb211, 3, none⟩) (Kd.R_far (p := ⟨gb211, 2, none⟩) (Kd.R_far (p := ⟨gb211, 1, none⟩) (Kd.R_far (p := ⟨gb211, 0, none⟩) (Kd.R_types HO224.out BK211.out (by decide)) (fun _ hk => hk.2) (.int .i64 a0_0)) (fun _ hk => hk.2) (.int .i64 a0_1)) (fun _ hk => hk.2) (.slice Ao89 x213002_1.length co89)) (fun _ hk => hk.2) (.slice Ao83 t222.length co83)) (fun _ hk => trivial), by repeat (first | (with_reducible first | exact HB.out | apply below_alloc | apply q16_ | apply below_drew1 | refine below_set ?_ GE209.out | refine below_set ?_ GE210.out | refine below_set ?_ GE211.out | refine below_set ?_ GE212.out) | exact HB.out)⟩
                      · rw [if_neg c70] at H; have c70b0 : decide (t221 < 0) = false := decide_eq_false c70; clear c70; simp only [Option.some.injEq, Prod.mk.injEq] at H; obtain ⟨rfl, rfl, rfl, rfl, rfl⟩ := H; have hnb92 := NB210_209.out; have hnc92 := NB209_210.out; have hnb93 := NB210_211.out; have hnc93 := NB211_210.out; have hnb94 := NB210_212.out; have hnc94 := NB212_210.out; have hcz95_0 : wc.cell? ⟨gb210, 0, none⟩ = some (.int .i64 a1_0) := (blk_cell BK210.out 0).trans rfl; have hcz95_1 : wc.cell? ⟨gb210, 1, none⟩ = some (.int .i64 a1_1) := (blk_cell BK210.out 1).trans rfl; have hcz95_2 : wc.cell? ⟨gb210, 2, none⟩ = some (.int .i64 a1_2) := (blk_cell BK210.out 2).trans rfl; have hcz95_3 : wc.cell? ⟨gb210, 3, none⟩ = some (.int .i64 a1_3) := (blk_cell BK210.out 3).trans rfl; have hcz95_4 : wc.cell? ⟨gb210, 4, none⟩ = some (.string a1_4) := (blk_cell BK210.out 4).trans rfl; have hcz95_5 : wc.cell? ⟨gb210, 5, none⟩ = some (.string a1_5) := (blk_cell BK210.out 5).trans rfl; have hfz95_0 := blk_frozen BK210.out 0; have hfz95_1 := blk_frozen BK210.out 1; have hfz95_2 := blk_frozen BK210.out 2; have hfz95_3 := blk_frozen BK210.out 3; have hfz95_4 := blk_frozen BK210.out 4; have hfz95_5 := blk_frozen BK210.out 5; have hnb96 := NB209_211.out; have hnc96 := NB211_209.out; have hnb97 := NB209_212.out; have hnc97 := NB212_209.out; have hcz98_0 : wc.cell? ⟨gb209, 0, none⟩ = some (.int .i64 a0_0) := (blk_cell BK209.out 0).trans rfl; have hcz98_1 : wc.cell? ⟨gb209, 1, none⟩ = some (.int .i64 a0_1) := (blk_cell BK209.out 1).trans rfl; have hcz98_2 : wc.cell? ⟨gb209, 2, none⟩ = some (.slice A0_2 l0_2.length c0_2) := (blk_cell BK209.out 2).trans rfl; have hcz98_3 : wc.cell? ⟨gb209, 3, none⟩ = some (.slice A0_3 l0_3.length c0_3) := (blk_cell BK209.out 3).trans rfl; have hfz98_0 := blk_frozen BK209.out 0; have hfz98_1 := blk_frozen BK209.out 1; have hfz98_2 := blk_frozen BK209.out 2; have hfz98_3 := blk_frozen BK209.out 3; have hnb99 := NB212_211.out; have hnc99 := NB211_212.out; have hcz100_0 : wc.cell? ⟨gb212, 0, none⟩ = some (.int .i64 a0_0) := (blk_cell BK212.out 0).trans rfl; have hcz100_1 : wc.cell? ⟨gb212, 1, none⟩ = some (.int .i64 a0_1) := (blk_cell BK212.out 1).trans rfl; have hcz100_2 : wc.cell? ⟨gb212, 2, none⟩ = some (u213002) := (blk_cell BK212.out 2).trans rfl; have hcz100_3 : wc.cell? ⟨gb212, 3, none⟩ = some (u213003) := (blk_cell BK212.out 3).trans rfl; have hfz100_0 := blk_frozen BK212.out 0; have hfz100_1 := blk_frozen BK212.out 1; have hfz100_2 := blk_frozen BK212.out 2; have hfz100_3 := blk_frozen BK212.out 3; obtain ⟨Ao101, co101, eo101⟩ := Kd.R_slice HO_213003.out; subst eo101
                        try go_wp2_with (first | ((with_reducible refine gate_callee (f := 35) rfl ?_); refine goesL_ (some 74) rfl rfl Try.func35 (by kernel_rfl) rfl #[.slice Ao101 x213003_2.length co101, .int .i64 a1_1] rfl (by (try simp only [List.map_toArray, List.map_cons, List.map_nil]); first | done | rfl | (simp only [List.length_drop, List.length_take]; rfl)) ?_; (with_reducible refine (codesearchref49_waits.calls kj39 _ _ x213003_2 a1_1 t221 _ ?side1 ?side2 A69.out).mono ?_); (case side1 => repeat (first | exact (Kd.R_reads' HO_213003.out).2.2 | (with_reducible refine Kd.C_alloc ?_ _) | (with_reducible refine Kd.C_drewN ?_ _) | (with_reducible refine Kd.C_drew ?_))); (case side2 => exact (Kd.R_reads' HO_213003.out).2.1); rintro e w' ⟨rfl, ⟨nd, rfl⟩⟩; refine ⟨_, rfl, ?_⟩; (try (rw [drewN_self wc]; generalize hq_ : World.drewN wc _ = wc; replace HO_213002 : Aside0 (Kd.R k36 36 wc w.heap.size (fun _ => True) u213002 x213002_1) := ⟨by rw [← hq_]; exact (r16_ HO_213002.out)⟩; replace HO_213003 : Aside0 (Kd.R k38 38 wc w.heap.size (fun k_ => k_ ≠ gb210) (.slice Ao101 x213003_2.length co101) x213003_2) := ⟨by rw [← hq_]; exact (r16_ HO_213003.out)⟩; replace BK209 : Aside0 (wc.heap[gb209]? = some (.cells #[.int .i64 a0_0, .int .i64 a0_1, .slice A0_2 l0_2.length c0_2, .slice A0_3 l0_3.length c0_3] 34 (0, 0))) := ⟨by rw [← hq_]; exact (k16_ BK209.out)⟩; replace BK210 : Aside0 (wc.heap[gb210]? = some (.cells #[.int .i64 a1_0, .int .i64 a1_1, .int .i64 a1_2, .int .i64 a1_3, .string a1_4, .string a1_5] 38 (0, 0))) := ⟨by rw [← hq_]; exact (k16_ BK210.out)⟩; replace BK211 : Aside0 (wc.heap[gb211]? = some (.cells #[.int .i64 0, .int .i64 0, .slice none 0 0, .slice none 0 0] 34 (0, 0))) := ⟨by rw [← hq_]; exact (k16_ BK211.out)⟩; replace BK212 : Aside0 (wc.heap[gb212]? = some (.cells #[.int .i64 a0_0, .int .i64 a0_1, u213002, .slice Ao101 x213003_2.length co101] 34 (0, 0))) := ⟨by rw [← hq_]; exact (k16_ BK212.out)⟩; replace HB : Aside0 (Below w.heap.size w wc) := ⟨by rw [← hq_]; exact z16_⟩; clear hq_))))
                        replace HO_213002 := a16_ (Kd.R_drew HO_213002.out); replace HO_213003 := a16_ (Kd.R_drew HO_213003.out); replace BK209 := a16_ (blk_drew BK209.out); replace BK210 := a16_ (blk_drew BK210.out); replace BK211 := a16_ (blk_drew BK211.out); replace BK212 := a16_ (blk_drew BK212.out); replace HB := a16_ (below_drew1 HB.out); obtain ⟨Ao105, co105, eo105⟩ := Kd.R_slice HO_213002.out
                        (first | subst eo105 | (injection eo105 with f1_ f2_ f3_; have f4_ := f1_.symm; have f5_ := f3_.symm; clear f1_ f2_ f3_; subst f4_; subst f5_))
                        refine start_ (n := 6) (S := fun w' => w'.cell? ⟨gb212, 0, none⟩ = some (.int .i64 a0_0) ∧ w'.cell? ⟨gb212, 1, none⟩ = some (.int .i64 a0_1) ∧ w'.cell? ⟨gb212, 2, none⟩ = some (.slice Ao105 x213002_1.length co105) ∧ w'.cell? ⟨gb212, 3, none⟩ = some (.slice Ao101 x213003_2.length co101)) (ds := []) b16_12 (by kernel_rfl) rfl rfl ⟨(blk_cell BK212.out 0).trans rfl, (blk_cell BK212.out 1).trans rfl, (blk_cell BK212.out 2).trans rfl, (blk_cell BK212.out 3).trans rfl⟩ (fun hHeld => ?_)
                        generalize wc.drew = w102 at HO_213002 HO_213003 BK209 BK210 BK211 BK212 HB hHeld ⊢
                        refine pure_ (i := 1) (N := some 82) (v := ?_) (a' := ?_) b16_13 rfl rfl (by kernel_rfl) (fun _ _ _ h => h) (Or.inl ⟨by rfl, ?_⟩) ?_ ?_; rotate_left
                        · intro w'; go_simp
                          with_reducible rfl
                        rotate_left
                        · simp only [Act.put, sT16_, sZ16_, sS16_, i64_w, i32_w]; rfl
                        refine take_ (i := 0) (N := some 81) (v := ?_) (a' := ?_) b16_14 rfl rfl (by kernel_rfl) (fun _ _ _ h => h) (Or.inl ⟨by rfl, ?_⟩) hHeld ?_ ?_; rotate_left
                        · rintro w' ⟨s0, s1, s2, s3⟩; go_simp
                          with_reducible rfl
                        rotate_left
                        · simp only [Act.put, sT16_, sZ16_, sS16_, i64_w, i32_w]; rfl
                        refine take_ (i := 2) (N := some 83) (v := ?_) (a' := ?_) b16_15 rfl rfl (by kernel_rfl) (fun _ _ _ h => h) (Or.inl ⟨by rfl, ?_⟩) hHeld ?_ ?_; rotate_left
                        · rintro w' ⟨s0, s1, s2, s3⟩; go_simp
                          with_reducible rfl
                        rotate_left
                        · simp only [Act.put, sT16_, sZ16_, sS16_, i64_w, i32_w]; rfl
                        refine pure_ (i := 3) (N := some 84) (v := ?_) (a' := ?_) b16_16 rfl rfl (by kernel_rfl) (fun _ _ _ h => h) (Or.inl ⟨by rfl, ?_⟩) ?_ ?_; rotate_left
                        · intro w'; go_simp
                          with_reducible rfl
                        rotate_left
                        · simp only [Act.put, sT16_, sZ16_, sS16_, i64_w, i32_w]; rfl
                        refine one_ (i := 4) (N := none) b16_17 rfl rfl (by kernel_rfl) (by decide) (fun K hK => ?_); have hs103 : w102.cell? ⟨gb211, 0, none⟩ = some (.int .i64 0) := (blk_cell BK211.out 0).trans rfl; have hfs103 := blk_frozen BK211.out 0; have hns103_0 := NB209_211.out; have hns103_1 := NB210_211.out; have hns103_3 := NB212_211.out; have hms103_0 := NB211_209.out; have hms103_1 := NB211_210.out; have hms103_3 := NB211_212.out; have hs104 : w102.cell? ⟨gb211, 1, none⟩ = some (.int .i64 0) := (blk_cell BK211.out 1).trans rfl; have hfs104 := blk_frozen BK211.out 1; have hns104_0 := NB209_211.out; have hns104_1 := NB210_211.out; have hns104_3 := NB212_211.out; have hms104_0 := NB211_209.out; have hms104_1 := NB211_210.out; have hms104_3 := NB211_212.out; have hs106 : w102.cell? ⟨gb211, 2, none⟩ = some (.slice none 0 0) := (blk_cell BK211.out 2).trans rfl; have hfs106 := blk_frozen BK211.out 2; have hns106_0 := NB209_211.out; have hns106_1 := NB210_211.out; have hns106_3 := NB212_211.out; have hms106_0 := NB211_209.out; have hms106_1 := NB211_210.out; have hms106_3 := NB211_212.out; have hs107 : w102.cell? ⟨gb211, 3, none⟩ = some (.slice none 0 0) := (blk_cell BK211.out 3).trans rfl; have hfs107 := blk_frozen BK211.out 3; have hns107_0 := NB209_211.out; have hns107_1 := NB210_211.out; have hns107_3 := NB212_211.out; have hms107_0 := NB211_209.out; have hms107_1 := NB211_210.out; have hms107_3 := NB211_212.out; refine skip_ (w1 := ?_) (by rfl) rfl ?_ ?_; rotate_left
                        · go_simp
                          rfl
                        refine hK.out _ _ ⟨((cell_far (p := ⟨gb211, _, none⟩) NB212_211.out _).trans (((cell_far (p := ⟨gb211, _, none⟩) NB212_211.out _).trans (((cell_far (p := ⟨gb211, _, none⟩) NB212_211.out _).trans (((cell_far (p := ⟨gb211, _, none⟩) NB212_211.out _).trans (hHeld.1)))))))), ((cell_far (p := ⟨gb211, _, none⟩) NB212_211.out _).trans (((cell_far (p := ⟨gb211, _, none⟩) NB212_211.out _).trans (((cell_far (p := ⟨gb211, _, none⟩) NB212_211.out _).trans (((cell_far (p := ⟨gb211, _, none⟩) NB212_211.out _).trans (hHeld.2.1)))))))), ((cell_far (p := ⟨gb211, _, none⟩) NB212_211.out _).trans (((cell_far (p := ⟨gb211, _, none⟩) NB212_211.out _).trans (((cell_far (p := ⟨gb211, _, none⟩) NB212_211.out _).trans (((cell_far (p := ⟨gb211, _, none⟩) NB212_211.out _).trans (hHeld.2.2.1)))))))), ((cell_far (p := ⟨gb211, _, none⟩) NB212_211.out _).trans (((cell_far (p := ⟨gb211, _, none⟩) NB212_211.out _).trans (((cell_far (p := ⟨gb211, _, none⟩) NB212_211.out _).trans (((cell_far (p := ⟨gb211, _, none⟩) NB212_211.out _).trans (hHeld.2.2.2))))))))⟩ (fun hHeld => ?_); clear hK K; refine pure_ (i := 5) (N := some 5) (v := ?_) (a' := ?_) b16_18 rfl rfl (by kernel_rfl) (fun _ _ _ h => h) (Or.inl ⟨by rfl, ?_⟩) ?_ ?_; rotate_left
                        · intro w'; go_simp
                          with_reducible rfl
                        rotate_left
                        · simp only [Act.put, sT16_, sZ16_, sS16_, i64_w, i32_w]; rfl
                        refine done_ (by kernel_rfl) ?_
                        try go_wp2
                        refine bodyPost_ret (results_ct rfl _ _ gb211 34 #[.int .i64 a0_0, .int .i64 a0_1, .slice Ao105 x213002_1.length co105, .slice Ao101 x213003_2.length co101] (0, 0) _ rfl (by (with_reducible repeat (first | refine blk_drewN ?_ _ | refine blk_drew ?_ | refine blk_alloc ?_ _)); refine blk_put (cs := #[.int .i64 a0_0, .int .i64 a0_1, .slice Ao105 x213002_1.length co105, .slice none 0 0]) ?_ 3 _ rfl; (with_reducible repeat (first | refine blk_drewN ?_ _ | refine blk_drew ?_ | refine blk_alloc ?_ _)); refine blk_put (cs := #[.int .i64 a0_0, .int .i64 a0_1, .slice none 0 0, .slice none 0 0]) ?_ 2 _ rfl; (with_reducible repeat (first | refine blk_drewN ?_ _ | refine blk_drew ?_ | refine blk_alloc ?_ _)); refine blk_put (cs := #[.int .i64 a0_0, .int .i64 0, .slice none 0 0, .slice none 0 0]) ?_ 1 _ rfl; (with_reducible repeat (first | refine blk_drewN ?_ _ | refine blk_drew ?_ | refine blk_alloc ?_ _)); refine blk_put (cs := #[.int .i64 0, .int .i64 0, .slice none 0 0, .slice none 0 0]) ?_ 0 _ rfl; (with_reducible repeat (first | refine blk_drewN ?_ _ | refine blk_drew ?_ | refine blk_alloc ?_ _)); exact BK211.out) Try.underlying34 rfl (by kernel_rfl)) rfl ?_; exact ⟨_, _, by first | rfl | (simp [errW_none, errW_some] <;> rfl) | (simp [*, errW_none, errW_some] <;> rfl), by (with_reducible repeat (first | apply Kd.R_alloc | apply Kd.R_drewN | apply Kd.R_drew)); exact Kd.R_mono (Kd.R_far (p := ⟨gb211, 3, none⟩) (Kd.R_far (p := ⟨gb211, 2, none⟩) (Kd.R_far (p := ⟨gb211, 1, none⟩) (Kd.R_far (p := ⟨gb211, 0, none⟩) (Kd.R_types HO_213002.out BK211.out (by decide)) (fun _ hk => hk.2) (.int .i64 a0_0)) (fun _ hk => hk.2) (.int .i64 a0_1)) (fun _ hk => hk.2) (.slice Ao105 x213002_1.length co105)) (fun _ hk => hk.2) (.slice Ao101 x213003_2.length co101)) (fun _ hk => trivial), by (with_reducible repeat (first | apply Kd.R_alloc | apply Kd.R_drewN | apply Kd.R_drew)); exact Kd.R_mono (Kd.R_far (p := ⟨gb211, 3, none⟩) (Kd.R_far (p := ⟨gb211, 2, none⟩) (Kd.R_far (p := ⟨gb211, 1, none⟩) (Kd.R_far (p := ⟨gb211, 0, none⟩) (Kd.R_types HO_213003.out BK211.out (by decide)) (fun _ hk => hk.2) (.int .i64 a0_0)) (fun _ hk => hk.2) (.int .i64 a0_1)) (fun _ hk => hk.2) (.slice Ao105 x213002_1.length co105)) (fun _ hk => hk.2) (.slice Ao101 x213003_2.length co101)) (fun _ hk => trivial), by repeat (first | (with_reducible first | exact HB.out | apply below_alloc | apply q16_ | apply below_drew1 | refine below_set ?_ GE209.out | refine below_set ?_ GE210.out | refine below_set ?_ GE211.out | refine below_set ?_ GE212.out) | exact HB.out)⟩
                    · rw [if_neg c68] at H; have c68b0 : decide (a0_1 < a1_1) = false := decide_eq_false c68; clear c68
                      by_cases c108 : x213002_1.length < 2932031007402
                      · rw [if_pos c108] at H; have LMc108 := a16_ c108; clear c108; obtain ⟨y225, hy225⟩ : ∃ y_ : List (S36), y_ = (x213002_1 ++ [(⟨a1_2, a1_3, a1_4, a1_5⟩ : S36)]) := ⟨_, rfl⟩; replace H : ((codesearchref49_waits.f kj39 x213003_2 (wrap64 (a0_1 + 1))).bind fun t228 => (codesearchref49_Receive.l2 kj39 t228 a0_0 (wrap64 (a0_1 + 1)) y225 x213003_2)) = some (r1, r2, r3, r4, r5) := by first | (rw [hy225]; with_reducible exact H) | (have H2_ := (Option.bind_some _ _).symm.trans H; rw [hy225]; with_reducible exact H2_) | (have H2_ := (Option.bind_some _ _).symm.trans H; with_reducible exact H2_) | with_reducible exact H | (rw [hy225]; exact H) | exact H
                        have Ny225 := a16_ hy225; clear hy225; replace H := Option.bind_eq_some_iff.mp H; obtain ⟨t228, A1090, H⟩ := H; replace H : (codesearchref49_Receive.l2 kj39 t228 a0_0 (wrap64 (a0_1 + 1)) y225 x213003_2) = some (r1, r2, r3, r4, r5) := H; have A109 := a16_ A1090; clear A1090; have H' := a16_ H; clear H; have hnb110 := NB210_209.out; have hnc110 := NB209_210.out; have hnb111 := NB210_211.out; have hnc111 := NB211_210.out; have hnb112 := NB210_212.out; have hnc112 := NB212_210.out; have hcz113_0 : wc.cell? ⟨gb210, 0, none⟩ = some (.int .i64 a1_0) := (blk_cell BK210.out 0).trans rfl; have hcz113_1 : wc.cell? ⟨gb210, 1, none⟩ = some (.int .i64 a1_1) := (blk_cell BK210.out 1).trans rfl; have hcz113_2 : wc.cell? ⟨gb210, 2, none⟩ = some (.int .i64 a1_2) := (blk_cell BK210.out 2).trans rfl; have hcz113_3 : wc.cell? ⟨gb210, 3, none⟩ = some (.int .i64 a1_3) := (blk_cell BK210.out 3).trans rfl; have hcz113_4 : wc.cell? ⟨gb210, 4, none⟩ = some (.string a1_4) := (blk_cell BK210.out 4).trans rfl; have hcz113_5 : wc.cell? ⟨gb210, 5, none⟩ = some (.string a1_5) := (blk_cell BK210.out 5).trans rfl; have hfz113_0 := blk_frozen BK210.out 0; have hfz113_1 := blk_frozen BK210.out 1; have hfz113_2 := blk_frozen BK210.out 2; have hfz113_3 := blk_frozen BK210.out 3; have hfz113_4 := blk_frozen BK210.out 4; have hfz113_5 := blk_frozen BK210.out 5; have hnb114 := NB209_211.out; have hnc114 := NB211_209.out; have hnb115 := NB209_212.out; have hnc115 := NB212_209.out; have hcz116_0 : wc.cell? ⟨gb209, 0, none⟩ = some (.int .i64 a0_0) := (blk_cell BK209.out 0).trans rfl; have hcz116_1 : wc.cell? ⟨gb209, 1, none⟩ = some (.int .i64 a0_1) := (blk_cell BK209.out 1).trans rfl; have hcz116_2 : wc.cell? ⟨gb209, 2, none⟩ = some (.slice A0_2 l0_2.length c0_2) := (blk_cell BK209.out 2).trans rfl; have hcz116_3 : wc.cell? ⟨gb209, 3, none⟩ = some (.slice A0_3 l0_3.length c0_3) := (blk_cell BK209.out 3).trans rfl; have hfz116_0 := blk_frozen BK209.out 0; have hfz116_1 := blk_frozen BK209.out 1; have hfz116_2 := blk_frozen BK209.out 2; have hfz116_3 := blk_frozen BK209.out 3; have hnb117 := NB212_211.out; have hnc117 := NB211_212.out; have hcz118_0 : wc.cell? ⟨gb212, 0, none⟩ = some (.int .i64 a0_0) := (blk_cell BK212.out 0).trans rfl; have hcz118_1 : wc.cell? ⟨gb212, 1, none⟩ = some (.int .i64 a0_1) := (blk_cell BK212.out 1).trans rfl; have hcz118_2 : wc.cell? ⟨gb212, 2, none⟩ = some (u213002) := (blk_cell BK212.out 2).trans rfl; have hcz118_3 : wc.cell? ⟨gb212, 3, none⟩ = some (u213003) := (blk_cell BK212.out 3).trans rfl; have hfz118_0 := blk_frozen BK212.out 0; have hfz118_1 := blk_frozen BK212.out 1; have hfz118_2 := blk_frozen BK212.out 2; have hfz118_3 := blk_frozen BK212.out 3
                        go_wp2_with (first | ((with_reducible refine gate_builtin (b := .append) (xs := #[.tmp 86, .tmp 89]) rfl ?_); at_builtin; refine Kd.R_append k36 (w0 := w) w.heap.size rfl (.tmp 86) (.tmp 89) 25 36 (.agg #[(.int .i64 0), (.int .i64 0), (.string ⟨#[]⟩), (.string ⟨#[]⟩)]) 48 rfl Try.underlying25 info36 rfl (by decide) (by omega) u213002 x213002_1 (⟨a1_2, a1_3, a1_4, a1_5⟩ : S36) [.int .i64 a1_2, .int .i64 a1_3, .string a1_4, .string a1_5] (fun _ => True) (fun _ => False) rfl rfl ?aP (fun _ hk => hk.elim) ?aF ?aO ?aB ?aS ?aL ?_; (case aP => exact k36_mkM _ _ _ (⟨a1_2, a1_3, a1_4, a1_5⟩ : S36)); (case aB => exact z16_); (case aF => exact (fun _ _ => trivial)); (case aO => exact (r16_ HO_213002.out)); (case aS => exact (below_size z16_)); (case aL => have := LMc108.out; omega); intro v226 w119 ho hb hg hat; rw [← Ny225.out] at ho; replace HO_213003 := a16_ (Kd.R_over' (r16_ HO_213003.out) (Kd.R_typed (r16_ HO_213002.out)) (by decide) hg); replace BK209 := a16_ (blk_grown (g := gb209) (o := .cells #[.int .i64 a0_0, .int .i64 a0_1, .slice A0_2 l0_2.length c0_2, .slice A0_3 l0_3.length c0_3] 34 (0, 0)) (k16_ BK209.out) hg (Kd.R_ne HO_213002.out BK209.out (by decide))); replace BK210 := a16_ (blk_grown (g := gb210) (o := .cells #[.int .i64 a1_0, .int .i64 a1_1, .int .i64 a1_2, .int .i64 a1_3, .string a1_4, .string a1_5] 38 (0, 0)) (k16_ BK210.out) hg (Kd.R_ne HO_213002.out BK210.out (by decide))); replace BK211 := a16_ (blk_grown (g := gb211) (o := .cells #[.int .i64 0, .int .i64 0, .slice none 0 0, .slice none 0 0] 34 (0, 0)) (k16_ BK211.out) hg (Kd.R_ne HO_213002.out BK211.out (by decide))); replace BK212 := a16_ (blk_grown (g := gb212) (o := .cells #[.int .i64 a0_0, .int .i64 a0_1, u213002, u213003] 34 (0, 0)) (k16_ BK212.out) hg (Kd.R_ne HO_213002.out BK212.out (by decide))); replace HB := a16_ (hb); have HO227 := a16_ (ho); clear HO_213002 ho hb hg hat; obtain ⟨Ao120, co120, eo120⟩ := Kd.R_slice HO227.out; subst eo120; have hcz121_0 : w119.cell? ⟨gb212, 0, none⟩ = some (.int .i64 a0_0) := (blk_cell BK212.out 0).trans rfl; have hcz121_1 : w119.cell? ⟨gb212, 1, none⟩ = some (.int .i64 a0_1) := (blk_cell BK212.out 1).trans rfl; have hcz121_2 : w119.cell? ⟨gb212, 2, none⟩ = some (u213002) := (blk_cell BK212.out 2).trans rfl; have hcz121_3 : w119.cell? ⟨gb212, 3, none⟩ = some (u213003) := (blk_cell BK212.out 3).trans rfl; have hfz121_0 := blk_frozen BK212.out 0; have hfz121_1 := blk_frozen BK212.out 1; have hfz121_2 := blk_frozen BK212.out 2; have hfz121_3 := blk_frozen BK212.out 3; obtain ⟨Ao122, co122, eo122⟩ := Kd.R_slice HO_213003.out; subst eo122) | ((with_reducible refine gate_callee (f := 35) rfl ?_); refine goesL_ (some 100) rfl rfl Try.func35 (by kernel_rfl) rfl #[.slice Ao122 x213003_2.length co122, .int .i64 (wrap64 (a0_1 + 1))] rfl (by (try simp only [List.map_toArray, List.map_cons, List.map_nil]); first | done | rfl | (simp only [List.length_drop, List.length_take]; rfl)) ?_; (with_reducible refine (codesearchref49_waits.calls kj39 _ _ x213003_2 (wrap64 (a0_1 + 1)) t228 _ ?side1 ?side2 A109.out).mono ?_); (case side1 => refine (Kd.R_reads' (e := 38) (base := w.heap.size) (ok := fun k_ => k_ ≠ gb210) (n := x213003_2.length) (c := co122) ?_).2.2; exact (by (with_reducible repeat (first | apply Kd.R_alloc | apply Kd.R_drewN | apply Kd.R_drew)); exact (Kd.R_mono (Kd.R_far (p := ⟨gb212, 1, none⟩) (Kd.R_far (p := ⟨gb212, 2, none⟩) (Kd.R_types HO_213003.out BK212.out (by decide)) (fun _ hk => hk.2) (.slice Ao120 y225.length co120)) (fun _ hk => hk.2) (.int .i64 (wrap64 (a0_1 + 1)))) (fun _ h_ => h_.1)))); (case side2 => exact (Kd.R_reads' HO_213003.out).2.1); rintro e w' ⟨rfl, ⟨nd, rfl⟩⟩; refine ⟨_, rfl, ?_⟩))
                        go_loopg [9] kj39 (fun kq v9 w' => ∃ (x9_4 : Int) (x213001_4 : Int) (x213002_4 : List (S36)) (x213003_4 : List (S38)) (u213002 : Value) (u213003 : Value), v9 = .int .i64 x9_4 ∧ Aside0 (codesearchref49_Receive.l2 kq x9_4 a0_0 x213001_4 x213002_4 x213003_4 = some (r1, r2, r3, r4, r5)) ∧ Aside0 (kq ≤ kj39) ∧ Aside0 (Kd.R k36 36 w' w.heap.size (fun _ => True) u213002 x213002_4) ∧ Aside0 (Kd.R k38 38 w' w.heap.size (fun k_ => k_ ≠ gb210) u213003 x213003_4) ∧ Aside0 (w'.heap[gb209]? = some (.cells #[.int .i64 a0_0, .int .i64 a0_1, (.slice A0_2 l0_2.length c0_2), (.slice A0_3 l0_3.length c0_3)] 34 (0, 0))) ∧ Aside0 (w'.heap[gb210]? = some (.cells #[.int .i64 a1_0, .int .i64 a1_1, .int .i64 a1_2, .int .i64 a1_3, .string a1_4, .string a1_5] 38 (0, 0))) ∧ Aside0 (w'.heap[gb211]? = some (.cells #[.int .i64 0, .int .i64 0, (.slice none 0 0), (.slice none 0 0)] 34 (0, 0))) ∧ Aside0 (w'.heap[gb212]? = some (.cells #[.int .i64 a0_0, .int .i64 x213001_4, u213002, u213003] 34 (0, 0))) ∧ Aside0 (Below w.heap.size w w'))
                        case atStart => exact ⟨(t228), (wrap64 (a0_1 + 1)), (y225), (x213003_2), (.slice Ao120 y225.length co120), (.slice Ao122 x213003_2.length co122), (by first | rfl | (simp; done) | (simp [*]; done)), H', ⟨Nat.le_refl _⟩, ⟨by (with_reducible repeat (first | apply Kd.R_alloc | apply Kd.R_drewN | apply Kd.R_drew)); exact Kd.R_mono (Kd.R_far (p := ⟨gb212, 1, none⟩) (Kd.R_far (p := ⟨gb212, 2, none⟩) (Kd.R_types HO227.out BK212.out (by decide)) (fun _ hk => hk.2) (.slice Ao120 y225.length co120)) (fun _ hk => hk.2) (.int .i64 (wrap64 (a0_1 + 1)))) (fun _ hk => trivial)⟩, ⟨by (with_reducible repeat (first | apply Kd.R_alloc | apply Kd.R_drewN | apply Kd.R_drew)); exact Kd.R_mono (Kd.R_far (p := ⟨gb212, 1, none⟩) (Kd.R_far (p := ⟨gb212, 2, none⟩) (Kd.R_types HO_213003.out BK212.out (by decide)) (fun _ hk => hk.2) (.slice Ao120 y225.length co120)) (fun _ hk => hk.2) (.int .i64 (wrap64 (a0_1 + 1)))) (fun _ hk => hk.1)⟩, ⟨by (with_reducible repeat (first | refine blk_drewN ?_ _ | refine blk_drew ?_ | refine blk_alloc ?_ _)); refine blk_far ?_ NB209_212.out _; (with_reducible repeat (first | refine blk_drewN ?_ _ | refine blk_drew ?_ | refine blk_alloc ?_ _)); refine blk_far ?_ NB209_212.out _; (with_reducible repeat (first | refine blk_drewN ?_ _ | refine blk_drew ?_ | refine blk_alloc ?_ _)); exact BK209.out⟩, ⟨by (with_reducible repeat (first | refine blk_drewN ?_ _ | refine blk_drew ?_ | refine blk_alloc ?_ _)); refine blk_far ?_ NB210_212.out _; (with_reducible repeat (first | refine blk_drewN ?_ _ | refine blk_drew ?_ | refine blk_alloc ?_ _)); refine blk_far ?_ NB210_212.out _; (with_reducible repeat (first | refine blk_drewN ?_ _ | refine blk_drew ?_ | refine blk_alloc ?_ _)); exact BK210.out⟩, ⟨by (with_reducible repeat (first | refine blk_drewN ?_ _ | refine blk_drew ?_ | refine blk_alloc ?_ _)); refine blk_far ?_ NB211_212.out _; (with_reducible repeat (first | refine blk_drewN ?_ _ | refine blk_drew ?_ | refine blk_alloc ?_ _)); refine blk_far ?_ NB211_212.out _; (with_reducible repeat (first | refine blk_drewN ?_ _ | refine blk_drew ?_ | refine blk_alloc ?_ _)); exact BK211.out⟩, ⟨by (with_reducible repeat (first | refine blk_drewN ?_ _ | refine blk_drew ?_ | refine blk_alloc ?_ _)); refine blk_put (cs := #[.int .i64 a0_0, .int .i64 a0_1, .slice Ao120 y225.length co120, .slice Ao122 x213003_2.length co122]) ?_ 1 _ rfl; (with_reducible repeat (first | refine blk_drewN ?_ _ | refine blk_drew ?_ | refine blk_alloc ?_ _)); refine blk_put (cs := #[.int .i64 a0_0, .int .i64 a0_1, u213002, .slice Ao122 x213003_2.length co122]) ?_ 2 _ rfl; (with_reducible repeat (first | refine blk_drewN ?_ _ | refine blk_drew ?_ | refine blk_alloc ?_ _)); exact BK212.out⟩, ⟨by repeat (first | (with_reducible first | exact HB.out | apply below_alloc | apply q16_ | apply below_drew1 | refine below_set ?_ GE209.out | refine below_set ?_ GE210.out | refine below_set ?_ GE211.out | refine below_set ?_ GE212.out) | exact HB.out)⟩⟩
                        case round =>
                          clear H'
                          try clear c1
                          try clear p2
                          try clear q2
                          try clear hx2
                          try clear c3
                          try clear c6
                          try clear p6
                          try clear c7
                          try clear c9
                          try clear c10
                          try clear c11
                          try clear p21
                          try clear q21
                          try clear hx21
                          try clear c35
                          try clear c36
                          try clear c60
                          try clear p64
                          try clear c68
                          try clear c68b0
                          try clear c70
                          try clear c70b0
                          try clear c72
                          try clear c73
                          try clear c74
                          try clear c76
                          try clear c77
                          try clear c79
                          try clear c92
                          try clear c93
                          try clear c94
                          try clear c96
                          try clear c97
                          try clear c99
                          try clear c108
                          try clear c110
                          try clear c111
                          try clear c112
                          try clear c114
                          try clear c115
                          try clear c117
                          try clear hcz100_0
                          try clear hcz100_1
                          try clear hcz100_2
                          try clear hcz100_3
                          try clear hcz113_0
                          try clear hcz113_1
                          try clear hcz113_2
                          try clear hcz113_3
                          try clear hcz113_4
                          try clear hcz113_5
                          try clear hcz116_0
                          try clear hcz116_1
                          try clear hcz116_2
                          try clear hcz116_3
                          try clear hcz118_0
                          try clear hcz118_1
                          try clear hcz118_2
                          try clear hcz118_3
                          try clear hcz121_0
                          try clear hcz121_1
                          try clear hcz121_2
                          try clear hcz121_3
                          try clear hcz75_0
                          try clear hcz75_1
                          try clear hcz75_2
                          try clear hcz75_3
                          try clear hcz75_4
                          try clear hcz75_5
                          try clear hcz78_0
                          try clear hcz78_1
                          try clear hcz78_2
                          try clear hcz78_3
                          try clear hcz80_0
                          try clear hcz80_1
                          try clear hcz80_2
                          try clear hcz80_3
                          try clear hcz84_0
                          try clear hcz84_1
                          try clear hcz84_2
                          try clear hcz84_3
                          try clear hcz95_0
                          try clear hcz95_1
                          try clear hcz95_2
                          try clear hcz95_3
                          try clear hcz95_4
                          try clear hcz95_5
                          try clear hcz98_0
                          try clear hcz98_1
                          try clear hcz98_2
                          try clear hcz98_3
                          try clear hfz100_0
                          try clear hfz100_1
                          try clear hfz100_2
                          try clear hfz100_3
                          try clear hfz113_0
                          try clear hfz113_1
                          try clear hfz113_2
                          try clear hfz113_3
                          try clear hfz113_4
                          try clear hfz113_5
                          try clear hfz116_0
                          try clear hfz116_1
                          try clear hfz116_2
                          try clear hfz116_3
                          try clear hfz118_0
                          try clear hfz118_1
                          try clear hfz118_2
                          try clear hfz118_3
                          try clear hfz121_0
                          try clear hfz121_1
                          try clear hfz121_2
                          try clear hfz121_3
                          try clear hfz44_1
                          try clear hfz44_2
                          try clear hfz44_3
                          try clear hfz49_0
                          try clear hfz49_1
                          try clear hfz49_2
                          try clear hfz49_3
                          try clear hfz49_4
                          try clear hfz49_5
                          try clear hfz52_0
                          try clear hfz52_1
                          try clear hfz52_2
                          try clear hfz52_3
                          try clear hfz56_0
                          try clear hfz56_1
                          try clear hfz56_2
                          try clear hfz56_3
                          try clear hfz56_4
                          try clear hfz56_5
                          try clear hfz59_0
                          try clear hfz59_1
                          try clear hfz59_2
                          try clear hfz59_3
                          try clear hfz75_0
                          try clear hfz75_1
                          try clear hfz75_2
                          try clear hfz75_3
                          try clear hfz75_4
                          try clear hfz75_5
                          try clear hfz78_0
                          try clear hfz78_1
                          try clear hfz78_2
                          try clear hfz78_3
                          try clear hfz80_0
                          try clear hfz80_1
                          try clear hfz80_2
                          try clear hfz80_3
                          try clear hfz84_0
                          try clear hfz84_1
                          try clear hfz84_2
                          try clear hfz84_3
                          try clear hfz8_0
                          try clear hfz8_1
                          try clear hfz8_2
                          try clear hfz8_3
                          try clear hfz95_0
                          try clear hfz95_1
                          try clear hfz95_2
                          try clear hfz95_3
                          try clear hfz95_4
                          try clear hfz95_5
                          try clear hfz98_0
                          try clear hfz98_1
                          try clear hfz98_2
                          try clear hfz98_3
                          try clear hx213_0
                          try clear hx213_1
                          try clear hx213_2
                          try clear hx213_3
                          try clear hx217_0
                          try clear hx217_1
                          try clear hx217_2
                          try clear hx217_3
                          try clear hx217_4
                          try clear hx217_5
                          try clear p2
                          try clear p21
                          try clear p213
                          try clear p217
                          try clear p6
                          try clear q2
                          try clear q21
                          try clear q213
                          try clear q217
                          obtain ⟨x9_4, x213001_4, x213002_4, x213003_4, u213002, u213003, rfl, HA, HK4, HO_213002, HO_213003, BK209, BK210, BK211, BK212, HB⟩ := hrel
                          cases gk with
                          | zero => exact absurd HA.out (by simp [codesearchref49_Receive.l2])
                          | succ k4 =>
                            have H := HA.out; clear HA; simp only [codesearchref49_Receive.l2] at H
                            by_cases c123 : x9_4 ≥ 0
                            · rw [if_pos c123] at H; have c123b0 : decide (0 ≤ x9_4) = true := decide_eq_true c123; clear c123
                              by_cases c124 : 0 ≤ x9_4
                              · rw [if_pos c124] at H; have c124b0 : decide (0 ≤ x9_4) = true := decide_eq_true c124; clear c124
                                by_cases c125 : x9_4 < (x213003_4.length : Int)
                                · rw [if_pos c125] at H; have c125b0 : decide (x9_4 < (x213003_4.length : Int)) = true := decide_eq_true c125; clear c125
                                  by_cases c126 : x213002_4.length < 2932031007402
                                  · rw [if_pos c126] at H; have LMc126 := a16_ c126; clear c126; obtain ⟨y230, hy230⟩ : ∃ y_ : List (S36), y_ = (x213002_4 ++ [(⟨(rd_T38 x213003_4 x9_4).f2.f0, (rd_T38 x213003_4 x9_4).f2.f1, (rd_T38 x213003_4 x9_4).f2.f2, (rd_T38 x213003_4 x9_4).f2.f3⟩ : S36)]) := ⟨_, rfl⟩; replace H : ((codesearchref49_without.f k4 x213003_4 x9_4).bind fun t233 => ((codesearchref49_waits.f k4 t233 (wrap64 (x213001_4 + 1))).bind fun t236 => (codesearchref49_Receive.l2 k4 t236 a0_0 (wrap64 (x213001_4 + 1)) y230 t233))) = some (r1, r2, r3, r4, r5) := by first | (rw [hy230]; with_reducible exact H) | (have H2_ := (Option.bind_some _ _).symm.trans H; rw [hy230]; with_reducible exact H2_) | (have H2_ := (Option.bind_some _ _).symm.trans H; with_reducible exact H2_) | with_reducible exact H | (rw [hy230]; exact H) | exact H
                                    have Ny230 := a16_ hy230; clear hy230; replace H := Option.bind_eq_some_iff.mp H; obtain ⟨t233, A1270, H⟩ := H; replace H : ((codesearchref49_waits.f k4 t233 (wrap64 (x213001_4 + 1))).bind fun t236 => (codesearchref49_Receive.l2 k4 t236 a0_0 (wrap64 (x213001_4 + 1)) y230 t233)) = some (r1, r2, r3, r4, r5) := H; have A127 := a16_ A1270; clear A1270; replace H := Option.bind_eq_some_iff.mp H; obtain ⟨t236, A1280, H⟩ := H; replace H : (codesearchref49_Receive.l2 k4 t236 a0_0 (wrap64 (x213001_4 + 1)) y230 t233) = some (r1, r2, r3, r4, r5) := H; have A128 := a16_ A1280; clear A1280; have H' := a16_ H; clear H
                                    try go_wp2
                                    replace HO_213002 := a16_ (Kd.R_drew HO_213002.out); replace HO_213003 := a16_ (Kd.R_drew HO_213003.out); replace BK209 := a16_ (blk_drew BK209.out); replace BK210 := a16_ (blk_drew BK210.out); replace BK211 := a16_ (blk_drew BK211.out); replace BK212 := a16_ (blk_drew BK212.out); replace HB := a16_ (below_drew1 HB.out); obtain ⟨Ao130, co130, eo130⟩ := Kd.R_slice HO_213003.out
                                    (first | subst eo130 | (injection eo130 with f1_ f2_ f3_; have f4_ := f1_.symm; have f5_ := f3_.symm; clear f1_ f2_ f3_; subst f4_; subst f5_))
                                    have p229 : 0 ≤ (x9_4 : Int) := of_decide_eq_true (by first | (with_reducible assumption) | assumption); have q229 : x9_4 < (x213003_4.length : Int) := of_decide_eq_true (by first | (with_reducible assumption) | assumption); obtain ⟨ad229, e229, hx229_0, hx229_1, hx229_2, hx229_3, hx229_4, hx229_5⟩ := at_T38 (Kd.R_reads' HO_213003.out).2.2 x9_4 p229 q229
                                    cases e229
                                    replace p229 := eq_true p229; replace q229 := eq_true q229; refine start_ (n := 12) (S := fun w' => w'.cell? ⟨gb212, 0, none⟩ = some (.int .i64 a0_0) ∧ w'.cell? ⟨gb212, 1, none⟩ = some (.int .i64 x213001_4) ∧ w'.cell? ⟨gb212, 2, none⟩ = some (u213002) ∧ w'.cell? ⟨gb212, 3, none⟩ = some (.slice (some ad229) x213003_4.length co130) ∧ w'.cell? (ad229.add ((x9_4).toNat * 6)) = some (.int .i64 ((rd_T38 x213003_4 x9_4).f0)) ∧ w'.cell? ⟨(ad229.add ((x9_4).toNat * 6)).block, (ad229.add ((x9_4).toNat * 6)).off + 1, none⟩ = some (.int .i64 ((rd_T38 x213003_4 x9_4).f1)) ∧ w'.cell? ⟨(ad229.add ((x9_4).toNat * 6)).block, (ad229.add ((x9_4).toNat * 6)).off + 2, none⟩ = some (.int .i64 ((rd_T38 x213003_4 x9_4).f2.f0)) ∧ w'.cell? ⟨(ad229.add ((x9_4).toNat * 6)).block, (ad229.add ((x9_4).toNat * 6)).off + 3, none⟩ = some (.int .i64 ((rd_T38 x213003_4 x9_4).f2.f1)) ∧ w'.cell? ⟨(ad229.add ((x9_4).toNat * 6)).block, (ad229.add ((x9_4).toNat * 6)).off + 4, none⟩ = some (.string ((rd_T38 x213003_4 x9_4).f2.f2)) ∧ w'.cell? ⟨(ad229.add ((x9_4).toNat * 6)).block, (ad229.add ((x9_4).toNat * 6)).off + 5, none⟩ = some (.string ((rd_T38 x213003_4 x9_4).f2.f3))) (ds := [9, 11]) #[false, false, false, false, false, false, false, false, false, false, false, false] (by kernel_rfl) rfl rfl ⟨(blk_cell BK212.out 0).trans rfl, (blk_cell BK212.out 1).trans rfl, (blk_cell BK212.out 2).trans rfl, (blk_cell BK212.out 3).trans rfl, hx229_0, hx229_1, hx229_2, hx229_3, hx229_4, hx229_5⟩ (fun hHeld => ?_); refine with_tabW codesearchref49_Receive.tab20 codesearchref49_Receive.bits20 (fun HT_ HW_ => ?_)
                                    generalize wr.drew = w129 at HO_213002 HO_213003 BK209 BK210 BK211 BK212 HB hx229_0 hx229_1 hx229_2 hx229_3 hx229_4 hx229_5 hHeld ⊢
                                    refine pure_ (i := 0) (N := some 103) (v := ?_) (a' := ?_) #[true, false, false, false, false, false, false, false, false, false, false, false] rfl rfl (any_of HT_.out (by kernel_rfl)) (fun _ _ _ h => h) (Or.inl ⟨by rfl, ?_⟩) ?_ ?_; rotate_left
                                    · intro w'; go_simp
                                      with_reducible rfl
                                    rotate_left
                                    · simp only [Act.put, sT16_, sZ16_, sS16_, i64_w, i32_w]; rfl
                                    refine pure_ (i := 2) (N := some 105) (v := ?_) (a' := ?_) #[true, false, true, false, false, false, false, false, false, false, false, false] rfl rfl (any_of HT_.out (by kernel_rfl)) (fun _ _ _ h => h) (Or.inl ⟨by rfl, ?_⟩) ?_ ?_; rotate_left
                                    · intro w'; go_simp
                                      with_reducible rfl
                                    rotate_left
                                    · simp only [Act.put, sT16_, sZ16_, sS16_, i64_w, i32_w]; rfl
                                    refine pure_ (i := 4) (N := some 107) (v := ?_) (a' := ?_) #[true, false, true, false, true, false, false, false, false, false, false, false] rfl rfl (any_of HT_.out (by kernel_rfl)) (fun _ _ _ h => h) (Or.inl ⟨by rfl, ?_⟩) ?_ ?_; rotate_left
                                    · intro w'; go_simp
                                      with_reducible rfl
                                    rotate_left
                                    · simp only [Act.put, sT16_, sZ16_, sS16_, i64_w, i32_w]; rfl
                                    refine take_ (i := 1) (N := some 104) (v := ?_) (a' := ?_) #[true, true, true, false, true, false, false, false, false, false, false, false] rfl rfl (take_ofW HT_.out HW_.out (by kernel_rfl)) (fun _ _ _ h => h) (Or.inl ⟨by rfl, ?_⟩) hHeld ?_ ?_; rotate_left
                                    · rintro w' ⟨s0, s1, s2, s3, s4, s5, s6, s7, s8, s9⟩; go_simp
                                      with_reducible rfl
                                    rotate_left
                                    · simp only [Act.put, sT16_, sZ16_, sS16_, i64_w, i32_w]; rfl
                                    refine take_ (i := 3) (N := some 106) (v := ?_) (a' := ?_) #[true, true, true, true, true, false, false, false, false, false, false, false] rfl rfl (take_ofW HT_.out HW_.out (by kernel_rfl)) (fun _ _ _ h => h) (Or.inl ⟨by rfl, ?_⟩) hHeld ?_ ?_; rotate_left
                                    · rintro w' ⟨s0, s1, s2, s3, s4, s5, s6, s7, s8, s9⟩; go_simp
                                      with_reducible rfl
                                    rotate_left
                                    · simp only [Act.put, sT16_, sZ16_, sS16_, i64_w, i32_w]; rfl
                                    refine pure_ (i := 5) (N := some 108) (v := ?_) (a' := ?_) #[true, true, true, true, true, true, false, false, false, false, false, false] rfl rfl (any_of HT_.out (by kernel_rfl)) (fun _ _ _ h => h) (Or.inl ⟨by rfl, ?_⟩) ?_ ?_; rotate_left
                                    · intro w'; go_simp
                                      with_reducible rfl
                                    rotate_left
                                    · simp only [Act.put, sT16_, sZ16_, sS16_, i64_w, i32_w]; rfl
                                    refine pure_ (i := 6) (N := some 109) (v := ?_) (a' := ?_) #[true, true, true, true, true, true, true, false, false, false, false, false] rfl rfl (any_of HT_.out (by kernel_rfl)) (fun _ _ _ h => h) (Or.inl ⟨by rfl, ?_⟩) ?_ ?_; rotate_left
                                    · intro w'; go_simp
                                      with_reducible rfl
                                    rotate_left
                                    · simp only [Act.put, sT16_, sZ16_, sS16_, i64_w, i32_w]; rfl
                                    refine take_ (i := 7) (N := some 110) (v := ?_) (a' := ?_) #[true, true, true, true, true, true, true, true, false, false, false, false] rfl rfl (take_ofW HT_.out HW_.out (by kernel_rfl)) (fun _ _ _ h => h) (Or.inl ⟨by rfl, ?_⟩) hHeld ?_ ?_; rotate_left
                                    · rintro w' ⟨s0, s1, s2, s3, s4, s5, s6, s7, s8, s9⟩; go_simp
                                      with_reducible rfl
                                    rotate_left
                                    · simp only [Act.put, sT16_, sZ16_, sS16_, i64_w, i32_w]; rfl
                                    refine one_ (i := 8) (N := some 111) #[true, true, true, true, true, true, true, true, true, false, false, false] rfl rfl (one_of HT_.out (by kernel_rfl)) (by decide) (fun K hK => ?_); refine value_ (w1 := ?_) (v := ?_) (by rfl) rfl ?_ ?_; rotate_left 2
                                    · go_simp
                                      constructor
                                      · rfl
                                      · rfl
                                    refine hK.out _ _ ⟨(blk_cell (blk_alloc BK212.out _) 0).trans rfl, (blk_cell (blk_alloc BK212.out _) 1).trans rfl, (blk_cell (blk_alloc BK212.out _) 2).trans rfl, (blk_cell (blk_alloc BK212.out _) 3).trans rfl, (World.cell?_alloc_lt _ _ _ (World.block_lt_of_cell? _ _ (hHeld.2.2.2.2.1))).trans (hHeld.2.2.2.2.1), (World.cell?_alloc_lt _ _ _ (World.block_lt_of_cell? _ _ (hHeld.2.2.2.2.2.1))).trans (hHeld.2.2.2.2.2.1), (World.cell?_alloc_lt _ _ _ (World.block_lt_of_cell? _ _ (hHeld.2.2.2.2.2.2.1))).trans (hHeld.2.2.2.2.2.2.1), (World.cell?_alloc_lt _ _ _ (World.block_lt_of_cell? _ _ (hHeld.2.2.2.2.2.2.2.1))).trans (hHeld.2.2.2.2.2.2.2.1), (World.cell?_alloc_lt _ _ _ (World.block_lt_of_cell? _ _ (hHeld.2.2.2.2.2.2.2.2.1))).trans (hHeld.2.2.2.2.2.2.2.2.1), (World.cell?_alloc_lt _ _ _ (World.block_lt_of_cell? _ _ (hHeld.2.2.2.2.2.2.2.2.2))).trans (hHeld.2.2.2.2.2.2.2.2.2)⟩ (fun hHeld => ?_); clear hK K; refine norm_ (a' := ?_) ?_ ?_; rotate_left
                                    · show Act.put _ (some 111) _ = _
                                      simp only [Act.put, sT16_, sZ16_, sS16_, i64_w, i32_w]; rfl
                                    refine last_ (i := 9) (N := some 112) #[true, true, true, true, true, true, true, true, true, true, false, false] rfl rfl (one_of HT_.out (by kernel_rfl)) (by decide) (fun K hK => ?_); refine Kd.R_append_step k36 (w0 := w) w.heap.size (by rfl) (.tmp 104) (.tmp 111) 25 36 (.agg #[(.int .i64 0), (.int .i64 0), (.string ⟨#[]⟩), (.string ⟨#[]⟩)]) 48 rfl Try.underlying25 info36 rfl (by decide) (by omega) u213002 x213002_4 (⟨(rd_T38 x213003_4 x9_4).f2.f0, (rd_T38 x213003_4 x9_4).f2.f1, (rd_T38 x213003_4 x9_4).f2.f2, (rd_T38 x213003_4 x9_4).f2.f3⟩ : S36) [.int .i64 ((rd_T38 x213003_4 x9_4).f2.f0), .int .i64 ((rd_T38 x213003_4 x9_4).f2.f1), .string ((rd_T38 x213003_4 x9_4).f2.f2), .string ((rd_T38 x213003_4 x9_4).f2.f3)] (fun _ => True) (fun _ => False) rfl rfl ?aP (fun _ hk => hk.elim) ?aF ?aO ?aB ?aS ?aL ?_
                                    (case aP => exact k36_mkM _ _ _ (⟨(rd_T38 x213003_4 x9_4).f2.f0, (rd_T38 x213003_4 x9_4).f2.f1, (rd_T38 x213003_4 x9_4).f2.f2, (rd_T38 x213003_4 x9_4).f2.f3⟩ : S36))
                                    (case aB => exact z16_)
                                    (case aF => exact (fun _ _ => trivial))
                                    (case aO => exact (r16_ HO_213002.out))
                                    (case aS => exact (below_size z16_))
                                    (case aL => have := LMc126.out; omega)
                                    intro v231 w131 ho hb hg hat; rw [← Ny230.out] at ho; replace HO_213003 := a16_ (Kd.R_over' (r16_ HO_213003.out) (Kd.R_typed (r16_ HO_213002.out)) (by decide) hg); replace BK209 := a16_ (blk_grown (g := gb209) (o := .cells #[.int .i64 a0_0, .int .i64 a0_1, .slice A0_2 l0_2.length c0_2, .slice A0_3 l0_3.length c0_3] 34 (0, 0)) (k16_ BK209.out) hg (Kd.R_ne HO_213002.out BK209.out (by decide))); replace BK210 := a16_ (blk_grown (g := gb210) (o := .cells #[.int .i64 a1_0, .int .i64 a1_1, .int .i64 a1_2, .int .i64 a1_3, .string a1_4, .string a1_5] 38 (0, 0)) (k16_ BK210.out) hg (Kd.R_ne HO_213002.out BK210.out (by decide))); replace BK211 := a16_ (blk_grown (g := gb211) (o := .cells #[.int .i64 0, .int .i64 0, .slice none 0 0, .slice none 0 0] 34 (0, 0)) (k16_ BK211.out) hg (Kd.R_ne HO_213002.out BK211.out (by decide))); replace BK212 := a16_ (blk_grown (g := gb212) (o := .cells #[.int .i64 a0_0, .int .i64 x213001_4, u213002, .slice (some ad229) x213003_4.length co130] 34 (0, 0)) (k16_ BK212.out) hg (Kd.R_ne HO_213002.out BK212.out (by decide))); replace HB := a16_ (hb); have HO232 := a16_ (ho); clear HO_213002 ho hb hg hat; obtain ⟨Ao132, co132, eo132⟩ := Kd.R_slice HO232.out
                                    (first | subst eo132 | (injection eo132 with f1_ f2_ f3_; have f4_ := f1_.symm; have f5_ := f3_.symm; clear f1_ f2_ f3_; subst f4_; subst f5_))
                                    refine hK.out _ _ ?_; clear hK K; refine norm_ (a' := ?_) ?_ ?_; rotate_left
                                    · show Act.put _ (some 112) _ = _
                                      simp only [Act.put, sT16_, sZ16_, sS16_, i64_w, i32_w]; rfl
                                    refine pure_ (i := 10) (N := some 113) (v := ?_) (a' := ?_) #[true, true, true, true, true, true, true, true, true, true, true, false] rfl rfl (any_of HT_.out (by kernel_rfl)) (fun _ _ _ h => h) (Or.inl ⟨by rfl, ?_⟩) ?_ ?_; rotate_left
                                    · intro w'; go_simp
                                      with_reducible rfl
                                    rotate_left
                                    · simp only [Act.put, sT16_, sZ16_, sS16_, i64_w, i32_w]; rfl
                                    refine last_ (i := 11) (N := none) #[true, true, true, true, true, true, true, true, true, true, true, true] rfl rfl (one_of HT_.out (by kernel_rfl)) (by decide) (fun K hK => ?_); have hs133 : w131.cell? ⟨gb212, 2, none⟩ = some (u213002) := (blk_cell BK212.out 2).trans rfl; have hfs133 := blk_frozen BK212.out 2; have hns133_0 := NB209_212.out; have hns133_1 := NB210_212.out; have hns133_2 := NB211_212.out; have hms133_0 := NB212_209.out; have hms133_1 := NB212_210.out; have hms133_2 := NB212_211.out; refine skip_ (w1 := ?_) (by rfl) rfl ?_ ?_; rotate_left
                                    · go_simp
                                      rfl
                                    refine hK.out _ _ ?_; clear hK K; refine done_ (done_of HT_.out (by kernel_rfl)) ?_; have hnb134 := NB212_209.out; have hnc134 := NB209_212.out; have hnb135 := NB212_210.out; have hnc135 := NB210_212.out; have hnb136 := NB212_211.out; have hnc136 := NB211_212.out; have hcz137_0 : w131.cell? ⟨gb212, 0, none⟩ = some (.int .i64 a0_0) := (blk_cell BK212.out 0).trans rfl; have hcz137_1 : w131.cell? ⟨gb212, 1, none⟩ = some (.int .i64 x213001_4) := (blk_cell BK212.out 1).trans rfl; have hcz137_2 : w131.cell? ⟨gb212, 2, none⟩ = some (u213002) := (blk_cell BK212.out 2).trans rfl; have hcz137_3 : w131.cell? ⟨gb212, 3, none⟩ = some (.slice (some ad229) x213003_4.length co130) := (blk_cell BK212.out 3).trans rfl; have hfz137_0 := blk_frozen BK212.out 0; have hfz137_1 := blk_frozen BK212.out 1; have hfz137_2 := blk_frozen BK212.out 2; have hfz137_3 := blk_frozen BK212.out 3
                                    try go_wp2_with (first | ((with_reducible refine gate_callee (f := 37) rfl ?_); refine goesL_ (some 117) rfl rfl Try.func37 (by kernel_rfl) rfl #[.slice (some ad229) x213003_4.length co130, .int .i64 x9_4] rfl (by (try simp only [List.map_toArray, List.map_cons, List.map_nil]); first | done | rfl | (simp only [List.length_drop, List.length_take]; rfl)) ?_; (with_reducible refine (codesearchref49_without.calls k4 _ _ x213003_4 x9_4 t233 _ ?side1 ?side2 A127.out).mono ?_); (case side1 => refine (Kd.R_reads' (e := 38) (base := w.heap.size) (ok := fun k_ => k_ ≠ gb210) (n := x213003_4.length) (c := co130) ?_).2.2; exact (by (with_reducible repeat (first | apply Kd.R_alloc | apply Kd.R_drewN | apply Kd.R_drew)); exact (Kd.R_mono (Kd.R_far (p := ⟨gb212, 2, none⟩) (Kd.R_types HO_213003.out BK212.out (by decide)) (fun _ hk => hk.2) (.slice Ao132 y230.length co132)) (fun _ h_ => h_.1)))); (case side2 => exact (Kd.R_reads' HO_213003.out).2.1); rintro e w138 ⟨v234, rfl, ho0, hb⟩; refine ⟨_, rfl, ?_⟩; replace HO232 := a16_ (Kd.R_below (by (with_reducible repeat (first | apply Kd.R_alloc | apply Kd.R_drewN | apply Kd.R_drew)); exact (Kd.R_mono (Kd.R_far (p := ⟨gb212, 2, none⟩) (Kd.R_types HO232.out BK212.out (by decide)) (fun _ hk => hk.2) (.slice Ao132 y230.length co132)) (fun _ h_ => h_.1))) hb); have HO235 := a16_ (Kd.R_lower (Kd.R_newB (Kd.R_new' ho0 (Kd.R_lt (by (with_reducible repeat (first | apply Kd.R_alloc | apply Kd.R_drewN | apply Kd.R_drew)); exact (Kd.R_mono (Kd.R_far (p := ⟨gb212, 2, none⟩) (Kd.R_types HO_213003.out BK212.out (by decide)) (fun _ hk => hk.2) (.slice Ao132 y230.length co132)) (fun _ h_ => h_.1))))) (g := gb210) (o := .cells #[.int .i64 a1_0, .int .i64 a1_1, .int .i64 a1_2, .int .i64 a1_3, .string a1_4, .string a1_5] 38 (0, 0)) (by (with_reducible repeat (first | refine blk_drewN ?_ _ | refine blk_drew ?_ | refine blk_alloc ?_ _)); refine blk_far ?_ NB210_212.out _; (with_reducible repeat (first | refine blk_drewN ?_ _ | refine blk_drew ?_ | refine blk_alloc ?_ _)); exact BK210.out)) (below_size z16_)); replace HO_213003 := a16_ (Kd.R_elder' (by (with_reducible repeat (first | apply Kd.R_alloc | apply Kd.R_drewN | apply Kd.R_drew)); exact (Kd.R_mono (Kd.R_far (p := ⟨gb212, 2, none⟩) (Kd.R_types HO_213003.out BK212.out (by decide)) (fun _ hk => hk.2) (.slice Ao132 y230.length co132)) (fun _ h_ => h_.1))) (Kd.R_base ho0) hb); replace BK209 := a16_ (blk_below (g := gb209) (o := .cells #[.int .i64 a0_0, .int .i64 a0_1, .slice A0_2 l0_2.length c0_2, .slice A0_3 l0_3.length c0_3] 34 (0, 0)) (by (with_reducible repeat (first | refine blk_drewN ?_ _ | refine blk_drew ?_ | refine blk_alloc ?_ _)); refine blk_far ?_ NB209_212.out _; (with_reducible repeat (first | refine blk_drewN ?_ _ | refine blk_drew ?_ | refine blk_alloc ?_ _)); exact BK209.out) hb); replace BK210 := a16_ (blk_below (g := gb210) (o := .cells #[.int .i64 a1_0, .int .i64 a1_1, .int .i64 a1_2, .int .i64 a1_3, .string a1_4, .string a1_5] 38 (0, 0)) (by (with_reducible repeat (first | refine blk_drewN ?_ _ | refine blk_drew ?_ | refine blk_alloc ?_ _)); refine blk_far ?_ NB210_212.out _; (with_reducible repeat (first | refine blk_drewN ?_ _ | refine blk_drew ?_ | refine blk_alloc ?_ _)); exact BK210.out) hb); replace BK211 := a16_ (blk_below (g := gb211) (o := .cells #[.int .i64 0, .int .i64 0, .slice none 0 0, .slice none 0 0] 34 (0, 0)) (by (with_reducible repeat (first | refine blk_drewN ?_ _ | refine blk_drew ?_ | refine blk_alloc ?_ _)); refine blk_far ?_ NB211_212.out _; (with_reducible repeat (first | refine blk_drewN ?_ _ | refine blk_drew ?_ | refine blk_alloc ?_ _)); exact BK211.out) hb); replace BK212 := a16_ (blk_below (g := gb212) (o := .cells #[.int .i64 a0_0, .int .i64 x213001_4, .slice Ao132 y230.length co132, .slice (some ad229) x213003_4.length co130] 34 (0, 0)) (by (with_reducible repeat (first | refine blk_drewN ?_ _ | refine blk_drew ?_ | refine blk_alloc ?_ _)); refine blk_put (cs := #[.int .i64 a0_0, .int .i64 x213001_4, u213002, .slice (some ad229) x213003_4.length co130]) ?_ 2 _ rfl; (with_reducible repeat (first | refine blk_drewN ?_ _ | refine blk_drew ?_ | refine blk_alloc ?_ _)); exact BK212.out) hb); replace HB := a16_ (below_step z16_ hb); (try clear hb); (try clear hb2); (try clear hk); (try clear hi); (try clear ho0); obtain ⟨Ao139, co139, eo139⟩ := Kd.R_slice HO235.out; subst eo139; have hcz140_0 : w138.cell? ⟨gb212, 0, none⟩ = some (.int .i64 a0_0) := (blk_cell BK212.out 0).trans rfl; have hcz140_1 : w138.cell? ⟨gb212, 1, none⟩ = some (.int .i64 x213001_4) := (blk_cell BK212.out 1).trans rfl; have hcz140_2 : w138.cell? ⟨gb212, 2, none⟩ = some (.slice Ao132 y230.length co132) := (blk_cell BK212.out 2).trans rfl; have hcz140_3 : w138.cell? ⟨gb212, 3, none⟩ = some (.slice (some ad229) x213003_4.length co130) := (blk_cell BK212.out 3).trans rfl; have hfz140_0 := blk_frozen BK212.out 0; have hfz140_1 := blk_frozen BK212.out 1; have hfz140_2 := blk_frozen BK212.out 2; have hfz140_3 := blk_frozen BK212.out 3) | ((with_reducible refine gate_callee (f := 35) rfl ?_); refine goesL_ (some 127) rfl rfl Try.func35 (by kernel_rfl) rfl #[.slice Ao139 t233.length co139, .int .i64 (wrap64 (x213001_4 + 1))] rfl (by (try simp only [List.map_toArray, List.map_cons, List.map_nil]); first | done | rfl | (simp only [List.length_drop, List.length_take]; rfl)) ?_; (with_reducible refine (codesearchref49_waits.calls k4 _ _ t233 (wrap64 (x213001_4 + 1)) t236 _ ?side1 ?side2 A128.out).mono ?_); (case side1 => refine (Kd.R_reads' (e := 38) (base := w.heap.size) (ok := fun k_ => ((True ∧ some k_ ≠ (.slice (some ad229) x213003_4.length co130 : Value).ownBlock) ∧ k_ ≠ gb210)) (n := t233.length) (c := co139) ?_).2.2; exact (by (with_reducible repeat (first | apply Kd.R_alloc | apply Kd.R_drewN | apply Kd.R_drew)); exact (Kd.R_mono (Kd.R_far (p := ⟨gb212, 1, none⟩) (Kd.R_far (p := ⟨gb212, 3, none⟩) (Kd.R_types HO235.out BK212.out (by decide)) (fun _ hk => hk.2) (.slice Ao139 t233.length co139)) (fun _ hk => hk.2) (.int .i64 (wrap64 (x213001_4 + 1)))) (fun _ h_ => h_.1)))); (case side2 => exact (Kd.R_reads' HO235.out).2.1); rintro e w' ⟨rfl, ⟨nd, rfl⟩⟩; refine ⟨_, rfl, ?_⟩))
                                    go_roundg k4
                                    case measure => have := HK1.out; have := HK2.out; have := HJ39.out; have := HK4.out; omega
                                    case rel => exact ⟨(t236), (wrap64 (x213001_4 + 1)), (y230), (t233), (.slice Ao132 y230.length co132), (.slice Ao139 t233.length co139), (by first | rfl | (simp; done) | (simp [*]; done)), H', ⟨by have := HK1.out; have := HK2.out; have := HJ39.out; have := HK4.out; omega⟩, ⟨by (with_reducible repeat (first | apply Kd.R_alloc | apply Kd.R_drewN | apply Kd.R_drew)); exact Kd.R_mono (Kd.R_far (p := ⟨gb212, 1, none⟩) (Kd.R_far (p := ⟨gb212, 3, none⟩) (Kd.R_types HO232.out BK212.out (by decide)) (fun _ hk => hk.2) (.slice Ao139 t233.length co139)) (fun _ hk => hk.2) (.int .i64 (wrap64 (x213001_4 + 1)))) (fun _ hk => trivial)⟩, ⟨by (with_reducible repeat (first | apply Kd.R_alloc | apply Kd.R_drewN | apply Kd.R_drew)); exact Kd.R_mono (Kd.R_far (p := ⟨gb212, 1, none⟩) (Kd.R_far (p := ⟨gb212, 3, none⟩) (Kd.R_types HO235.out BK212.out (by decide)) (fun _ hk => hk.2) (.slice Ao139 t233.length co139)) (fun _ hk => hk.2) (.int .i64 (wrap64 (x213001_4 + 1)))) (fun _ hk => hk.1.2)⟩, ⟨by (with_reducible repeat (first | refine blk_drewN ?_ _ | refine blk_drew ?_ | refine blk_alloc ?_ _)); refine blk_far ?_ NB209_212.out _; (with_reducible repeat (first | refine blk_drewN ?_ _ | refine blk_drew ?_ | refine blk_alloc ?_ _)); refine blk_far ?_ NB209_212.out _; (with_reducible repeat (first | refine blk_drewN ?_ _ | refine blk_drew ?_ | refine blk_alloc ?_ _)); exact BK209.out⟩, ⟨by (with_reducible repeat (first | refine blk_drewN ?_ _ | refine blk_drew ?_ | refine blk_alloc ?_ _)); refine blk_far ?_ NB210_212.out _; (with_reducible repeat (first | refine blk_drewN ?_ _ | refine blk_drew ?_ | refine blk_alloc ?_ _)); refine blk_far ?_ NB210_212.out _; (with_reducible repeat (first | refine blk_drewN ?_ _ | refine blk_drew ?_ | refine blk_alloc ?_ _)); exact BK210.out⟩, ⟨by (with_reducible repeat (first | refine blk_drewN ?_ _ | refine blk_drew ?_ | refine blk_alloc ?_ _)); refine blk_far ?_ NB211_212.out _; (with_reducible repeat (first | refine blk_drewN ?_ _ | refine blk_drew ?_ | refine blk_alloc ?_ _)); refine blk_far ?_ NB211_212.out _; (with_reducible repeat (first | refine blk_drewN ?_ _ | refine blk_drew ?_ | refine blk_alloc ?_ _)); exact BK211.out⟩, ⟨by (with_reducible repeat (first | refine blk_drewN ?_ _ | refine blk_drew ?_ | refine blk_alloc ?_ _)); refine blk_put (cs := #[.int .i64 a0_0, .int .i64 x213001_4, .slice Ao132 y230.length co132, .slice Ao139 t233.length co139]) ?_ 1 _ rfl; (with_reducible repeat (first | refine blk_drewN ?_ _ | refine blk_drew ?_ | refine blk_alloc ?_ _)); refine blk_put (cs := #[.int .i64 a0_0, .int .i64 x213001_4, .slice Ao132 y230.length co132, .slice (some ad229) x213003_4.length co130]) ?_ 3 _ rfl; (with_reducible repeat (first | refine blk_drewN ?_ _ | refine blk_drew ?_ | refine blk_alloc ?_ _)); exact BK212.out⟩, ⟨by repeat (first | (with_reducible first | exact HB.out | apply below_alloc | apply q16_ | apply below_drew1 | refine below_set ?_ GE209.out | refine below_set ?_ GE210.out | refine below_set ?_ GE211.out | refine below_set ?_ GE212.out) | exact HB.out)⟩⟩
                                  · rw [if_neg c126] at H; exact absurd H (by simp)
                                · rw [if_neg c125] at H; exact absurd H (by simp)
                              · rw [if_neg c124] at H; exact absurd H (by simp)
                            · rw [if_neg c123] at H; have c123b0 : decide (0 ≤ x9_4) = false := decide_eq_false c123; clear c123; simp only [Option.some.injEq, Prod.mk.injEq] at H; obtain ⟨rfl, rfl, rfl, rfl, rfl⟩ := H
                              try go_wp2
                              replace HO_213002 := a16_ (Kd.R_drew HO_213002.out); replace HO_213003 := a16_ (Kd.R_drew HO_213003.out); replace BK209 := a16_ (blk_drew BK209.out); replace BK210 := a16_ (blk_drew BK210.out); replace BK211 := a16_ (blk_drew BK211.out); replace BK212 := a16_ (blk_drew BK212.out); replace HB := a16_ (below_drew1 HB.out); obtain ⟨Ao144, co144, eo144⟩ := Kd.R_slice HO_213002.out
                              (first | subst eo144 | (injection eo144 with f1_ f2_ f3_; have f4_ := f1_.symm; have f5_ := f3_.symm; clear f1_ f2_ f3_; subst f4_; subst f5_))
                              obtain ⟨Ao146, co146, eo146⟩ := Kd.R_slice HO_213003.out
                              (first | subst eo146 | (injection eo146 with f1_ f2_ f3_; have f4_ := f1_.symm; have f5_ := f3_.symm; clear f1_ f2_ f3_; subst f4_; subst f5_))
                              refine start_ (n := 6) (S := fun w' => w'.cell? ⟨gb212, 0, none⟩ = some (.int .i64 a0_0) ∧ w'.cell? ⟨gb212, 1, none⟩ = some (.int .i64 x213001_4) ∧ w'.cell? ⟨gb212, 2, none⟩ = some (.slice Ao144 x213002_4.length co144) ∧ w'.cell? ⟨gb212, 3, none⟩ = some (.slice Ao146 x213003_4.length co146)) (ds := []) b16_12 (by kernel_rfl) rfl rfl ⟨(blk_cell BK212.out 0).trans rfl, (blk_cell BK212.out 1).trans rfl, (blk_cell BK212.out 2).trans rfl, (blk_cell BK212.out 3).trans rfl⟩ (fun hHeld => ?_)
                              generalize wr.drew = w141 at HO_213002 HO_213003 BK209 BK210 BK211 BK212 HB hHeld ⊢
                              refine pure_ (i := 1) (N := some 129) (v := ?_) (a' := ?_) b16_13 rfl rfl (by kernel_rfl) (fun _ _ _ h => h) (Or.inl ⟨by rfl, ?_⟩) ?_ ?_; rotate_left
                              · intro w'; go_simp
                                with_reducible rfl
                              rotate_left
                              · simp only [Act.put, sT16_, sZ16_, sS16_, i64_w, i32_w]; rfl
                              refine take_ (i := 0) (N := some 128) (v := ?_) (a' := ?_) b16_14 rfl rfl (by kernel_rfl) (fun _ _ _ h => h) (Or.inl ⟨by rfl, ?_⟩) hHeld ?_ ?_; rotate_left
                              · rintro w' ⟨s0, s1, s2, s3⟩; go_simp
                                with_reducible rfl
                              rotate_left
                              · simp only [Act.put, sT16_, sZ16_, sS16_, i64_w, i32_w]; rfl
                              refine take_ (i := 2) (N := some 130) (v := ?_) (a' := ?_) b16_15 rfl rfl (by kernel_rfl) (fun _ _ _ h => h) (Or.inl ⟨by rfl, ?_⟩) hHeld ?_ ?_; rotate_left
                              · rintro w' ⟨s0, s1, s2, s3⟩; go_simp
                                with_reducible rfl
                              rotate_left
                              · simp only [Act.put, sT16_, sZ16_, sS16_, i64_w, i32_w]; rfl
                              refine pure_ (i := 3) (N := some 131) (v := ?_) (a' := ?_) b16_16 rfl rfl (by kernel_rfl) (fun _ _ _ h => h) (Or.inl ⟨by rfl, ?_⟩) ?_ ?_; rotate_left
                              · intro w'; go_simp
                                with_reducible rfl
                              rotate_left
                              · simp only [Act.put, sT16_, sZ16_, sS16_, i64_w, i32_w]; rfl
                              refine one_ (i := 4) (N := none) b16_17 rfl rfl (by kernel_rfl) (by decide) (fun K hK => ?_); have hs142 : w141.cell? ⟨gb211, 0, none⟩ = some (.int .i64 0) := (blk_cell BK211.out 0).trans rfl; have hfs142 := blk_frozen BK211.out 0; have hns142_0 := NB209_211.out; have hns142_1 := NB210_211.out; have hns142_3 := NB212_211.out; have hms142_0 := NB211_209.out; have hms142_1 := NB211_210.out; have hms142_3 := NB211_212.out; have hs143 : w141.cell? ⟨gb211, 1, none⟩ = some (.int .i64 0) := (blk_cell BK211.out 1).trans rfl; have hfs143 := blk_frozen BK211.out 1; have hns143_0 := NB209_211.out; have hns143_1 := NB210_211.out; have hns143_3 := NB212_211.out; have hms143_0 := NB211_209.out; have hms143_1 := NB211_210.out; have hms143_3 := NB211_212.out; have hs145 : w141.cell? ⟨gb211, 2, none⟩ = some (.slice none 0 0) := (blk_cell BK211.out 2).trans rfl; have hfs145 := blk_frozen BK211.out 2; have hns145_0 := NB209_211.out; have hns145_1 := NB210_211.out; have hns145_3 := NB212_211.out; have hms145_0 := NB211_209.out; have hms145_1 := NB211_210.out; have hms145_3 := NB211_212.out; have hs147 : w141.cell? ⟨gb211, 3, none⟩ = some (.slice none 0 0) := (blk_cell BK211.out 3).trans rfl; have hfs147 := blk_frozen BK211.out 3; have hns147_0 := NB209_211.out; have hns147_1 := NB210_211.out; have hns147_3 := NB212_211.out; have hms147_0 := NB211_209.out; have hms147_1 := NB211_210.out; have hms147_3 := NB211_212.out; refine skip_ (w1 := ?_) (by rfl) rfl ?_ ?_; rotate_left
                              · go_simp
                                rfl
                              refine hK.out _ _ ⟨((cell_far (p := ⟨gb211, _, none⟩) NB212_211.out _).trans (((cell_far (p := ⟨gb211, _, none⟩) NB212_211.out _).trans (((cell_far (p := ⟨gb211, _, none⟩) NB212_211.out _).trans (((cell_far (p := ⟨gb211, _, none⟩) NB212_211.out _).trans (hHeld.1)))))))), ((cell_far (p := ⟨gb211, _, none⟩) NB212_211.out _).trans (((cell_far (p := ⟨gb211, _, none⟩) NB212_211.out _).trans (((cell_far (p := ⟨gb211, _, none⟩) NB212_211.out _).trans (((cell_far (p := ⟨gb211, _, none⟩) NB212_211.out _).trans (hHeld.2.1)))))))), ((cell_far (p := ⟨gb211, _, none⟩) NB212_211.out _).trans (((cell_far (p := ⟨gb211, _, none⟩) NB212_211.out _).trans (((cell_far (p := ⟨gb211, _, none⟩) NB212_211.out _).trans (((cell_far (p := ⟨gb211, _, none⟩) NB212_211.out _).trans (hHeld.2.2.1)))))))), ((cell_far (p := ⟨gb211, _, none⟩) NB212_211.out _).trans (((cell_far (p := ⟨gb211, _, none⟩) NB212_211.out _).trans (((cell_far (p := ⟨gb211, _, none⟩) NB212_211.out _).trans (((cell_far (p := ⟨gb211, _, none⟩) NB212_211.out _).trans (hHeld.2.2.2))))))))⟩ (fun hHeld => ?_); clear hK K; refine pure_ (i := 5) (N := some 5) (v := ?_) (a' := ?_) b16_18 rfl rfl (by kernel_rfl) (fun _ _ _ h => h) (Or.inl ⟨by rfl, ?_⟩) ?_ ?_; rotate_left
                              · intro w'; go_simp
                                with_reducible rfl
                              rotate_left
                              · simp only [Act.put, sT16_, sZ16_, sS16_, i64_w, i32_w]; rfl
                              refine done_ (by kernel_rfl) ?_
                              try go_wp2
                              refine bodyPost_ret (results_ct rfl _ _ gb211 34 #[.int .i64 a0_0, .int .i64 x213001_4, .slice Ao144 x213002_4.length co144, .slice Ao146 x213003_4.length co146] (0, 0) _ rfl (by (with_reducible repeat (first | refine blk_drewN ?_ _ | refine blk_drew ?_ | refine blk_alloc ?_ _)); refine blk_put (cs := #[.int .i64 a0_0, .int .i64 x213001_4, .slice Ao144 x213002_4.length co144, .slice none 0 0]) ?_ 3 _ rfl; (with_reducible repeat (first | refine blk_drewN ?_ _ | refine blk_drew ?_ | refine blk_alloc ?_ _)); refine blk_put (cs := #[.int .i64 a0_0, .int .i64 x213001_4, .slice none 0 0, .slice none 0 0]) ?_ 2 _ rfl; (with_reducible repeat (first | refine blk_drewN ?_ _ | refine blk_drew ?_ | refine blk_alloc ?_ _)); refine blk_put (cs := #[.int .i64 a0_0, .int .i64 0, .slice none 0 0, .slice none 0 0]) ?_ 1 _ rfl; (with_reducible repeat (first | refine blk_drewN ?_ _ | refine blk_drew ?_ | refine blk_alloc ?_ _)); refine blk_put (cs := #[.int .i64 0, .int .i64 0, .slice none 0 0, .slice none 0 0]) ?_ 0 _ rfl; (with_reducible repeat (first | refine blk_drewN ?_ _ | refine blk_drew ?_ | refine blk_alloc ?_ _)); exact BK211.out) Try.underlying34 rfl (by kernel_rfl)) rfl ?_; exact ⟨_, _, by first | rfl | (simp [errW_none, errW_some] <;> rfl) | (simp [*, errW_none, errW_some] <;> rfl), by (with_reducible repeat (first | apply Kd.R_alloc | apply Kd.R_drewN | apply Kd.R_drew)); exact Kd.R_mono (Kd.R_far (p := ⟨gb211, 3, none⟩) (Kd.R_far (p := ⟨gb211, 2, none⟩) (Kd.R_far (p := ⟨gb211, 1, none⟩) (Kd.R_far (p := ⟨gb211, 0, none⟩) (Kd.R_types HO_213002.out BK211.out (by decide)) (fun _ hk => hk.2) (.int .i64 a0_0)) (fun _ hk => hk.2) (.int .i64 x213001_4)) (fun _ hk => hk.2) (.slice Ao144 x213002_4.length co144)) (fun _ hk => hk.2) (.slice Ao146 x213003_4.length co146)) (fun _ hk => trivial), by (with_reducible repeat (first | apply Kd.R_alloc | apply Kd.R_drewN | apply Kd.R_drew)); exact Kd.R_mono (Kd.R_far (p := ⟨gb211, 3, none⟩) (Kd.R_far (p := ⟨gb211, 2, none⟩) (Kd.R_far (p := ⟨gb211, 1, none⟩) (Kd.R_far (p := ⟨gb211, 0, none⟩) (Kd.R_types HO_213003.out BK211.out (by decide)) (fun _ hk => hk.2) (.int .i64 a0_0)) (fun _ hk => hk.2) (.int .i64 x213001_4)) (fun _ hk => hk.2) (.slice Ao144 x213002_4.length co144)) (fun _ hk => hk.2) (.slice Ao146 x213003_4.length co146)) (fun _ hk => trivial), by repeat (first | (with_reducible first | exact HB.out | apply below_alloc | apply q16_ | apply below_drew1 | refine below_set ?_ GE209.out | refine below_set ?_ GE210.out | refine below_set ?_ GE211.out | refine below_set ?_ GE212.out) | exact HB.out)⟩
                      · rw [if_neg c108] at H; exact absurd H (by simp)

end Go.Proofs.Ytcoidmhdkhpalaa.PAll
