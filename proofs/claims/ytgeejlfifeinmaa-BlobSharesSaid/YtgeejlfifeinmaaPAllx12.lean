-- Written by this session's program hprint.py over the kit's print. Not trusted: Lean checks it.
import Derived.Test.YtgeejlfifeinmaaPAllx0
import Derived.Test.YtgeejlfifeinmaaPAllx3
import Derived.Test.YtgeejlfifeinmaaPAllx4
import Derived.Test.YtgeejlfifeinmaaPAllx5
import Derived.Test.YtgeejlfifeinmaaPAllx6
import Derived.Test.YtgeejlfifeinmaaPAllx11
namespace Go.Proofs.Ytgeejlfifeinmaa.PAll
open Go.RowKit Go.Proofs.YtgeejlfifeinmaaW.PrintWords Go.Proofs.YtgeejlfifeinmaaW.PrintLast Go.Proofs.YtgeejlfifeinmaaW.PrintMore
attribute [local go_sem] max2_int min2_int max_two min_two max_three min_three max_four min_four   -- for this text's walks alone
set_option linter.unusedVariables false
set_option linter.unusedSimpArgs false

/-! ### codesearchlaw24_BlobShares: function 5 -/
theorem q5_ {B : Nat} {w w' : World} (h : Below B w w') (n : Nat) : Below B w (w'.drewN n) := pw_below_drewN h n
theorem a5_ {p : Prop} (h : p) : Aside0 p := ⟨h⟩
theorem sT5_ {α : Type} (xs : List α) (i : Nat) (a : α) : xs.toArray.setIfInBounds i a = (xs.set i a).toArray := List.setIfInBounds_toArray xs i a
theorem sZ5_ {α : Type} (x a : α) (xs : List α) : (x :: xs).set 0 a = a :: xs := rfl
theorem sS5_ {α : Type} (x a : α) (xs : List α) (n : Nat) : (x :: xs).set (n + 1) a = x :: xs.set n a := rfl
mutual
def codesearchlaw24_BlobShares.j0 : Nat → ByteArray → List Int → Bool → Int → List (S39) → Option (Bool)
  | 0, _, _, _, _, _ => none
  | k + 1, x1, x2, x36, x196000, x196001 => if x36 = true then (some true) else ((blob_Put.f k x196000 x196001 x1).bind fun bt197 => (if bt197.2.2.2 = 0 then ((blob_Get.f k bt197.1 bt197.2.1 bt197.2.2.1).bind fun bt204 => ((blob_Put.f k bt197.1 bt197.2.1 x1).bind fun bt206 => (if bt204.2 = true then (if bt204.1.toList = x1.toList then (if bt206.2.2.2 = 0 then (if bt206.2.2.1 = bt197.2.2.1 then ((codesearchref24_Same.f k bt197.1 bt197.2.1 bt206.1 bt206.2.1).bind fun t213 => (if t213 = true then ((blob_Right.f k bt197.1 bt197.2.1).bind fun t214 => (codesearchlaw24_BlobShares.j1 k x1 x2 bt197.2.2.1 (t214 != 0) x196000 x196001 bt197.1 bt197.2.1)) else (codesearchlaw24_BlobShares.j1 k x1 x2 bt197.2.2.1 true x196000 x196001 bt197.1 bt197.2.1))) else (codesearchlaw24_BlobShares.j1 k x1 x2 bt197.2.2.1 true x196000 x196001 bt197.1 bt197.2.1)) else (codesearchlaw24_BlobShares.j1 k x1 x2 bt197.2.2.1 true x196000 x196001 bt197.1 bt197.2.1)) else (codesearchlaw24_BlobShares.j1 k x1 x2 bt197.2.2.1 true x196000 x196001 bt197.1 bt197.2.1)) else (codesearchlaw24_BlobShares.j1 k x1 x2 bt197.2.2.1 true x196000 x196001 bt197.1 bt197.2.1)))) else (codesearchlaw24_BlobShares.j4 k x2 x196000 x196001)))
def codesearchlaw24_BlobShares.j4 : Nat → List Int → Int → List (S39) → Option (Bool)
  | 0, _, _, _ => none
  | k + 1, x2, x196000, x196001 => (blob_Keep.f k x196000 x196001 x2).bind fun bt221 => (codesearchlaw24_BlobShares.l1 k x2 0 x196000 x196001 bt221.1 bt221.2)
def codesearchlaw24_BlobShares.l1 : Nat → List Int → Int → Int → List (S39) → Int → List (S39) → Option (Bool)
  | 0, _, _, _, _, _, _ => none
  | k + 1, x2, x20, x196000, x196001, x226000, x226001 => if x20 < (x196001.length : Int) then (if 0 ≤ x20 then ((blob_Get.f k x196000 x196001 ((rd_T39 x196001 x20).f0)).bind fun bt229 => ((blob_Get.f k x226000 x226001 ((rd_T39 x196001 x20).f0)).bind fun bt231 => ((codesearchlaw24_has.f k x2 ((rd_T39 x196001 x20).f0)).bind fun t233 => (if t233 = true then (if (bt229.2 != bt231.2) = true then (some false) else (if bt229.1.toList = bt231.1.toList then ((codesearchlaw24_has.f k x2 ((rd_T39 x196001 x20).f0)).bind fun t234 => (if t234 = true then (codesearchlaw24_BlobShares.l1 k x2 (wrap64 (x20 + 1)) x196000 x196001 x226000 x226001) else (if bt231.2 = true then (some false) else (codesearchlaw24_BlobShares.l1 k x2 (wrap64 (x20 + 1)) x196000 x196001 x226000 x226001)))) else (some false))) else ((codesearchlaw24_has.f k x2 ((rd_T39 x196001 x20).f0)).bind fun t235 => (if t235 = true then (codesearchlaw24_BlobShares.l1 k x2 (wrap64 (x20 + 1)) x196000 x196001 x226000 x226001) else (if bt231.2 = true then (some false) else (codesearchlaw24_BlobShares.l1 k x2 (wrap64 (x20 + 1)) x196000 x196001 x226000 x226001)))))))) else (none)) else ((blob_Right.f k x196000 x196001).bind fun t226 => (if t226 = 0 then ((blob_Right.f k x226000 x226001).bind fun t227 => (if t227 = 0 then (some (x226000 == x196000)) else (some false))) else (some true)))
def codesearchlaw24_BlobShares.j1 : Nat → ByteArray → List Int → Int → Bool → Int → List (S39) → Int → List (S39) → Option (Bool)
  | 0, _, _, _, _, _, _, _, _ => none
  | k + 1, x1, x2, x8, x85, x196000, x196001, x204000, x204001 => if x85 = true then (some false) else (codesearchlaw24_BlobShares.l0 k x1 x2 x8 0 x196000 x196001 x204000 x204001)
def codesearchlaw24_BlobShares.l0 : Nat → ByteArray → List Int → Int → Int → Int → List (S39) → Int → List (S39) → Option (Bool)
  | 0, _, _, _, _, _, _, _, _ => none
  | k + 1, x1, x2, x8, x15, x196000, x196001, x204000, x204001 => if x15 < (x196001.length : Int) then (if 0 ≤ x15 then ((blob_Get.f k x204000 x204001 ((rd_T39 x196001 x15).f0)).bind fun bt216 => (if bt216.2 = true then (if bt216.1.toList = ((rd_T39 x196001 x15).f1).toList then (codesearchlaw24_BlobShares.l0 k x1 x2 x8 (wrap64 (x15 + 1)) x196000 x196001 x204000 x204001) else (some false)) else (some false))) else (none)) else (if x8 = x196000 then (codesearchlaw24_BlobShares.j3 k x2 (x1.size : Int) x196000 x196001 x204000 x204001) else (codesearchlaw24_BlobShares.j3 k x2 0 x196000 x196001 x204000 x204001))
def codesearchlaw24_BlobShares.j3 : Nat → List Int → Int → Int → List (S39) → Int → List (S39) → Option (Bool)
  | 0, _, _, _, _, _, _ => none
  | k + 1, x2, x18, x196000, x196001, x204000, x204001 => (blob_Size.f k x204000 x204001).bind fun t219 => ((blob_Size.f k x196000 x196001).bind fun t220 => (if t219 = (wrap64 (t220 + x18)) then (codesearchlaw24_BlobShares.j4 k x2 x196000 x196001) else (some false)))
end
def codesearchlaw24_BlobShares.f (k : Nat) (a0_0 : Int) (l0_1 : List (S39)) (a1 : ByteArray) (l2 : List Int) : Option (Bool) := (codesearchlaw24_alive.f k).bind fun t196 => (if t196 = true then (if (l0_1.length : Int) > 200 then (codesearchlaw24_BlobShares.j0 k a1 l2 true a0_0 l0_1) else (codesearchlaw24_BlobShares.j0 k a1 l2 (decide ((l2.length : Int) > 200)) a0_0 l0_1)) else (some false))
theorem codesearchlaw24_BlobShares.mono_l : ∀ k, (∀ y0 y1 y2 y3 y4, LeO (codesearchlaw24_BlobShares.j0 k y0 y1 y2 y3 y4) (codesearchlaw24_BlobShares.j0 (k + 1) y0 y1 y2 y3 y4)) ∧ (∀ y0 y1 y2, LeO (codesearchlaw24_BlobShares.j4 k y0 y1 y2) (codesearchlaw24_BlobShares.j4 (k + 1) y0 y1 y2)) ∧ (∀ y0 y1 y2 y3 y4 y5, LeO (codesearchlaw24_BlobShares.l1 k y0 y1 y2 y3 y4 y5) (codesearchlaw24_BlobShares.l1 (k + 1) y0 y1 y2 y3 y4 y5)) ∧ (∀ y0 y1 y2 y3 y4 y5 y6 y7, LeO (codesearchlaw24_BlobShares.j1 k y0 y1 y2 y3 y4 y5 y6 y7) (codesearchlaw24_BlobShares.j1 (k + 1) y0 y1 y2 y3 y4 y5 y6 y7)) ∧ (∀ y0 y1 y2 y3 y4 y5 y6 y7, LeO (codesearchlaw24_BlobShares.l0 k y0 y1 y2 y3 y4 y5 y6 y7) (codesearchlaw24_BlobShares.l0 (k + 1) y0 y1 y2 y3 y4 y5 y6 y7)) ∧ (∀ y0 y1 y2 y3 y4 y5, LeO (codesearchlaw24_BlobShares.j3 k y0 y1 y2 y3 y4 y5) (codesearchlaw24_BlobShares.j3 (k + 1) y0 y1 y2 y3 y4 y5))
  | 0 => ⟨fun _ _ _ _ _ r h => by simp [codesearchlaw24_BlobShares.j0] at h, fun _ _ _ r h => by simp [codesearchlaw24_BlobShares.j4] at h, fun _ _ _ _ _ _ r h => by simp [codesearchlaw24_BlobShares.l1] at h, fun _ _ _ _ _ _ _ _ r h => by simp [codesearchlaw24_BlobShares.j1] at h, fun _ _ _ _ _ _ _ _ r h => by simp [codesearchlaw24_BlobShares.l0] at h, fun _ _ _ _ _ _ r h => by simp [codesearchlaw24_BlobShares.j3] at h⟩
  | k + 1 => by
    obtain ⟨ih0, ih1, ih2, ih3, ih4, ih5⟩ := codesearchlaw24_BlobShares.mono_l k
    refine ⟨?_, ?_, ?_, ?_, ?_, ?_⟩
    · intro y0 y1 y2 y3 y4
      unfold codesearchlaw24_BlobShares.j0
      repeat' first
      | (with_reducible exact ih0 _ _ _ _ _)
      | (with_reducible exact ih1 _ _ _)
      | (with_reducible exact ih2 _ _ _ _ _ _)
      | (with_reducible exact ih3 _ _ _ _ _ _ _ _)
      | (with_reducible exact ih4 _ _ _ _ _ _ _ _)
      | (with_reducible exact ih5 _ _ _ _ _ _)
      | (with_reducible exact LeO.refl _)
      | (with_reducible exact LeO.none _)
      | (with_reducible refine LeO.ite ?_ ?_)
      | (with_reducible refine LeO.bind ?_ (fun _ => ?_))
      | exact ih0 _ _ _ _ _
      | exact ih1 _ _ _
      | exact ih2 _ _ _ _ _ _
      | exact ih3 _ _ _ _ _ _ _ _
      | exact ih4 _ _ _ _ _ _ _ _
      | exact ih5 _ _ _ _ _ _
      | exact blob_Get.mono _ _ _ _
      | exact blob_Keep.mono _ _ _ _
      | exact blob_Put.mono _ _ _ _
      | exact blob_Right.mono _ _ _
      | exact blob_Size.mono _ _ _
      | exact codesearchlaw24_alive.mono _
      | exact codesearchlaw24_has.mono _ _ _
      | exact codesearchref24_Same.mono _ _ _ _ _
      | exact LeO.none _
      | refine LeO.ite ?_ ?_
      | refine LeO.bind ?_ (fun _ => ?_)
    · intro y0 y1 y2
      unfold codesearchlaw24_BlobShares.j4
      repeat' first
      | (with_reducible exact ih0 _ _ _ _ _)
      | (with_reducible exact ih1 _ _ _)
      | (with_reducible exact ih2 _ _ _ _ _ _)
      | (with_reducible exact ih3 _ _ _ _ _ _ _ _)
      | (with_reducible exact ih4 _ _ _ _ _ _ _ _)
      | (with_reducible exact ih5 _ _ _ _ _ _)
      | (with_reducible exact LeO.refl _)
      | (with_reducible exact LeO.none _)
      | (with_reducible refine LeO.ite ?_ ?_)
      | (with_reducible refine LeO.bind ?_ (fun _ => ?_))
      | exact ih0 _ _ _ _ _
      | exact ih1 _ _ _
      | exact ih2 _ _ _ _ _ _
      | exact ih3 _ _ _ _ _ _ _ _
      | exact ih4 _ _ _ _ _ _ _ _
      | exact ih5 _ _ _ _ _ _
      | exact blob_Get.mono _ _ _ _
      | exact blob_Keep.mono _ _ _ _
      | exact blob_Put.mono _ _ _ _
      | exact blob_Right.mono _ _ _
      | exact blob_Size.mono _ _ _
      | exact codesearchlaw24_alive.mono _
      | exact codesearchlaw24_has.mono _ _ _
      | exact codesearchref24_Same.mono _ _ _ _ _
      | exact LeO.none _
      | refine LeO.ite ?_ ?_
      | refine LeO.bind ?_ (fun _ => ?_)
    · intro y0 y1 y2 y3 y4 y5
      unfold codesearchlaw24_BlobShares.l1
      repeat' first
      | (with_reducible exact ih0 _ _ _ _ _)
      | (with_reducible exact ih1 _ _ _)
      | (with_reducible exact ih2 _ _ _ _ _ _)
      | (with_reducible exact ih3 _ _ _ _ _ _ _ _)
      | (with_reducible exact ih4 _ _ _ _ _ _ _ _)
      | (with_reducible exact ih5 _ _ _ _ _ _)
      | (with_reducible exact LeO.refl _)
      | (with_reducible exact LeO.none _)
      | (with_reducible refine LeO.ite ?_ ?_)
      | (with_reducible refine LeO.bind ?_ (fun _ => ?_))
      | exact ih0 _ _ _ _ _
      | exact ih1 _ _ _
      | exact ih2 _ _ _ _ _ _
      | exact ih3 _ _ _ _ _ _ _ _
      | exact ih4 _ _ _ _ _ _ _ _
      | exact ih5 _ _ _ _ _ _
      | exact blob_Get.mono _ _ _ _
      | exact blob_Keep.mono _ _ _ _
      | exact blob_Put.mono _ _ _ _
      | exact blob_Right.mono _ _ _
      | exact blob_Size.mono _ _ _
      | exact codesearchlaw24_alive.mono _
      | exact codesearchlaw24_has.mono _ _ _
      | exact codesearchref24_Same.mono _ _ _ _ _
      | exact LeO.none _
      | refine LeO.ite ?_ ?_
      | refine LeO.bind ?_ (fun _ => ?_)
    · intro y0 y1 y2 y3 y4 y5 y6 y7
      unfold codesearchlaw24_BlobShares.j1
      repeat' first
      | (with_reducible exact ih0 _ _ _ _ _)
      | (with_reducible exact ih1 _ _ _)
      | (with_reducible exact ih2 _ _ _ _ _ _)
      | (with_reducible exact ih3 _ _ _ _ _ _ _ _)
      | (with_reducible exact ih4 _ _ _ _ _ _ _ _)
      | (with_reducible exact ih5 _ _ _ _ _ _)
      | (with_reducible exact LeO.refl _)
      | (with_reducible exact LeO.none _)
      | (with_reducible refine LeO.ite ?_ ?_)
      | (with_reducible refine LeO.bind ?_ (fun _ => ?_))
      | exact ih0 _ _ _ _ _
      | exact ih1 _ _ _
      | exact ih2 _ _ _ _ _ _
      | exact ih3 _ _ _ _ _ _ _ _
      | exact ih4 _ _ _ _ _ _ _ _
      | exact ih5 _ _ _ _ _ _
      | exact blob_Get.mono _ _ _ _
      | exact blob_Keep.mono _ _ _ _
      | exact blob_Put.mono _ _ _ _
      | exact blob_Right.mono _ _ _
      | exact blob_Size.mono _ _ _
      | exact codesearchlaw24_alive.mono _
      | exact codesearchlaw24_has.mono _ _ _
      | exact codesearchref24_Same.mono _ _ _ _ _
      | exact LeO.none _
      | refine LeO.ite ?_ ?_
      | refine LeO.bind ?_ (fun _ => ?_)
    · intro y0 y1 y2 y3 y4 y5 y6 y7
      unfold codesearchlaw24_BlobShares.l0
      repeat' first
      | (with_reducible exact ih0 _ _ _ _ _)
      | (with_reducible exact ih1 _ _ _)
      | (with_reducible exact ih2 _ _ _ _ _ _)
      | (with_reducible exact ih3 _ _ _ _ _ _ _ _)
      | (with_reducible exact ih4 _ _ _ _ _ _ _ _)
      | (with_reducible exact ih5 _ _ _ _ _ _)
      | (with_reducible exact LeO.refl _)
      | (with_reducible exact LeO.none _)
      | (with_reducible refine LeO.ite ?_ ?_)
      | (with_reducible refine LeO.bind ?_ (fun _ => ?_))
      | exact ih0 _ _ _ _ _
      | exact ih1 _ _ _
      | exact ih2 _ _ _ _ _ _
      | exact ih3 _ _ _ _ _ _ _ _
      | exact ih4 _ _ _ _ _ _ _ _
      | exact ih5 _ _ _ _ _ _
      | exact blob_Get.mono _ _ _ _
      | exact blob_Keep.mono _ _ _ _
      | exact blob_Put.mono _ _ _ _
      | exact blob_Right.mono _ _ _
      | exact blob_Size.mono _ _ _
      | exact codesearchlaw24_alive.mono _
      | exact codesearchlaw24_has.mono _ _ _
      | exact codesearchref24_Same.mono _ _ _ _ _
      | exact LeO.none _
      | refine LeO.ite ?_ ?_
      | refine LeO.bind ?_ (fun _ => ?_)
    · intro y0 y1 y2 y3 y4 y5
      unfold codesearchlaw24_BlobShares.j3
      repeat' first
      | (with_reducible exact ih0 _ _ _ _ _)
      | (with_reducible exact ih1 _ _ _)
      | (with_reducible exact ih2 _ _ _ _ _ _)
      | (with_reducible exact ih3 _ _ _ _ _ _ _ _)
      | (with_reducible exact ih4 _ _ _ _ _ _ _ _)
      | (with_reducible exact ih5 _ _ _ _ _ _)
      | (with_reducible exact LeO.refl _)
      | (with_reducible exact LeO.none _)
      | (with_reducible refine LeO.ite ?_ ?_)
      | (with_reducible refine LeO.bind ?_ (fun _ => ?_))
      | exact ih0 _ _ _ _ _
      | exact ih1 _ _ _
      | exact ih2 _ _ _ _ _ _
      | exact ih3 _ _ _ _ _ _ _ _
      | exact ih4 _ _ _ _ _ _ _ _
      | exact ih5 _ _ _ _ _ _
      | exact blob_Get.mono _ _ _ _
      | exact blob_Keep.mono _ _ _ _
      | exact blob_Put.mono _ _ _ _
      | exact blob_Right.mono _ _ _
      | exact blob_Size.mono _ _ _
      | exact codesearchlaw24_alive.mono _
      | exact codesearchlaw24_has.mono _ _ _
      | exact codesearchref24_Same.mono _ _ _ _ _
      | exact LeO.none _
      | refine LeO.ite ?_ ?_
      | refine LeO.bind ?_ (fun _ => ?_)
theorem codesearchlaw24_BlobShares.mono : ∀ a0 a1 a2 a3 k, LeO (codesearchlaw24_BlobShares.f k a0 a1 a2 a3) (codesearchlaw24_BlobShares.f (k + 1) a0 a1 a2 a3) := by
  intro a0 a1 a2 a3 k
  obtain ⟨ih0, ih1, ih2, ih3, ih4, ih5⟩ := codesearchlaw24_BlobShares.mono_l k
  unfold codesearchlaw24_BlobShares.f
  repeat' first
      | (with_reducible exact ih0 _ _ _ _ _)
      | (with_reducible exact ih1 _ _ _)
      | (with_reducible exact ih2 _ _ _ _ _ _)
      | (with_reducible exact ih3 _ _ _ _ _ _ _ _)
      | (with_reducible exact ih4 _ _ _ _ _ _ _ _)
      | (with_reducible exact ih5 _ _ _ _ _ _)
      | (with_reducible exact LeO.refl _)
      | (with_reducible exact LeO.none _)
      | (with_reducible refine LeO.ite ?_ ?_)
      | (with_reducible refine LeO.bind ?_ (fun _ => ?_))
      | exact ih0 _ _ _ _ _
      | exact ih1 _ _ _
      | exact ih2 _ _ _ _ _ _
      | exact ih3 _ _ _ _ _ _ _ _
      | exact ih4 _ _ _ _ _ _ _ _
      | exact ih5 _ _ _ _ _ _
      | exact blob_Get.mono _ _ _ _
      | exact blob_Keep.mono _ _ _ _
      | exact blob_Put.mono _ _ _ _
      | exact blob_Right.mono _ _ _
      | exact blob_Size.mono _ _ _
      | exact codesearchlaw24_alive.mono _
      | exact codesearchlaw24_has.mono _ _ _
      | exact codesearchref24_Same.mono _ _ _ _ _
      | exact LeO.none _
      | refine LeO.ite ?_ ?_
      | refine LeO.bind ?_ (fun _ => ?_)
def codesearchlaw24_BlobShares.T14 : Bool × List (List Nat × List Nat) := (true, [([], []), ([], []), ([1], [1]), ([], []), ([2, 3], [2, 3]), ([4], [4]), ([5], [5]), ([0, 6], [0, 6]), ([7], [7]), ([8], [8]), ([8], [8]), ([9, 7, 0, 1, 2, 3, 4, 5, 6, 7, 8, 9], [9]), ([10, 11, 0, 1, 2, 3, 4, 5, 6, 7, 8, 9, 10, 11], [10])])
def codesearchlaw24_BlobShares.B14 : List Nat := [0, 0, 2, 0, 14, 30, 62, 127, 255, 511, 511, 1023, 4095]
theorem codesearchlaw24_BlobShares.tab14 : rtab .any (opsOf Try.f5 14) = codesearchlaw24_BlobShares.T14 := by kernel_rfl
theorem codesearchlaw24_BlobShares.bits14 : waitsOk codesearchlaw24_BlobShares.T14.2 codesearchlaw24_BlobShares.B14 = true := by kernel_rfl
set_option maxHeartbeats 8000000 in
set_option maxRecDepth 100000 in
theorem codesearchlaw24_BlobShares.calls (k : Nat) (a0_0 : Int) (A0_1 : Option Addr) (c0_1 : Nat) (l0_1 : List (S39)) (a1 : ByteArray) (A2 : Option Addr) (c2 : Nat) (l2 : List Int) (r : Bool) (w : World) (hr0_1 : Kd.C k39 w A0_1 l0_1.length l0_1) (hc0_1 : l0_1.length ≤ c0_1) (hr2 : Kd.C (Kd.int .i64) w A2 l2.length l2) (hc2 : l2.length ≤ c2) (h : codesearchlaw24_BlobShares.f k a0_0 l0_1 a1 l2 = some r) :
    Calls Try.prog 5 #[.agg #[.int .i64 a0_0, .slice A0_1 l0_1.length c0_1], .string a1, .slice A2 l2.length c2] w fun e w' => e = .returned (.bool r) ∧ Below w.heap.size w w' := by
  have hu24 := Try.underlying24
  have HR0_1 := a5_ hr0_1
  have HC0_1 := a5_ hc0_1
  clear hr0_1 hc0_1
  have HR2 := a5_ hr2
  have HC2 := a5_ hc2
  clear hr2 hc2
  have HB := a5_ (Below.refl w.heap.size w)
  have H : ((codesearchlaw24_alive.f k).bind fun t196 => (if t196 = true then (if (l0_1.length : Int) > 200 then (codesearchlaw24_BlobShares.j0 k a1 l2 true a0_0 l0_1) else (codesearchlaw24_BlobShares.j0 k a1 l2 (decide ((l2.length : Int) > 200)) a0_0 l0_1)) else (some false))) = some r := h
  clear h
  replace H := Option.bind_eq_some_iff.mp H
  obtain ⟨t196, A40, H⟩ := H
  replace H : (if t196 = true then (if (l0_1.length : Int) > 200 then (codesearchlaw24_BlobShares.j0 k a1 l2 true a0_0 l0_1) else (codesearchlaw24_BlobShares.j0 k a1 l2 (decide ((l2.length : Int) > 200)) a0_0 l0_1)) else (some false)) = some r := H
  have A4 := a5_ A40
  clear A40
  by_cases c5 : t196 = true
  · subst c5
    have H1 : (if (l0_1.length : Int) > 200 then (codesearchlaw24_BlobShares.j0 k a1 l2 true a0_0 l0_1) else (codesearchlaw24_BlobShares.j0 k a1 l2 (decide ((l2.length : Int) > 200)) a0_0 l0_1)) = some r := by rw [if_pos rfl] at H; exact H
    clear H
    have H := H1
    clear H1
    have HC6 := a5_ H
    clear H
    go_enter Try.func5, Try.ntmps5
    go_upto_region 3 with (first | ((with_reducible refine gate_dst (N := 3) rfl ?_); (try (refine gate_guard (by rfl) ?_; dsimp only)); refine box_event ?hg (N := 3) ?hd (cs := #[.int .i64 a0_0, .slice A0_1 l0_1.length c0_1]) (t := 24) ?hr ?_; (case hd => rfl); (case hg => rfl); (case hr => first | (go_simp; done) | (go_simp; rfl)); intro gb195 hg w7 hbox hb; have n0_ := a5_ (below_step (by repeat (first | (with_reducible first | exact HB.out | apply below_alloc | apply q5_ | apply below_drew1) | exact HB.out)) hb); have n1_ := a5_ (hbox); have n2_ := a5_ ((by rw [hg]; exact (below_size (by repeat (first | (with_reducible first | exact HB.out | apply below_alloc | apply q5_ | apply below_drew1) | exact HB.out))) : w.heap.size ≤ gb195)); have n3_ := a5_ ((by rw [hg]; exact (below_size (by repeat (first | (with_reducible first | exact HB.out | apply below_alloc | apply q5_ | apply below_drew1) | exact HB.out))) : w.heap.size ≤ gb195)); clear HB; have HB := n0_; have BK195 := n1_; have GW195 := n2_; have GE195 := n3_; clear n0_ n1_ n2_ n3_; clear hb hbox hg) | ((with_reducible refine gate_callee (f := 6) rfl ?_); refine goesL_ (some 26) rfl rfl Try.func6 (by kernel_rfl) rfl #[] rfl (by (try simp only [List.map_toArray, List.map_cons, List.map_nil]); first | done | rfl | (simp only [List.length_drop, List.length_take]; rfl)) ?_; (with_reducible refine (codesearchlaw24_alive.calls k  true _ A4.out).mono ?_); rintro e w8 ⟨rfl, hb⟩; refine ⟨_, rfl, ?_⟩; have n0_ := a5_ (blk_below (g := gb195) (o := .cells #[.int .i64 a0_0, .slice A0_1 l0_1.length c0_1] 24 (0, 0)) (by (with_reducible repeat (first | refine blk_drewN ?_ _ | refine blk_drew ?_ | refine blk_alloc ?_ _)); exact BK195.out) hb); have n1_ := a5_ (below_step (by repeat (first | (with_reducible first | exact HB.out | apply below_alloc | apply q5_ | apply below_drew1 | refine below_set ?_ GE195.out) | exact HB.out)) hb); clear BK195; clear HB; have BK195 := n0_; have HB := n1_; clear n0_ n1_; (try clear hb); (try clear hb2); (try clear hk); (try clear hi)))
    (try simp only [Act.put, List.setIfInBounds_toArray, List.set_cons_zero, List.set_cons_succ])
    go_cut [36] (fun v36 wc => ∃ (kq : Nat) (x36_5 : Bool), v36 = .bool x36_5 ∧ Aside0 (codesearchlaw24_BlobShares.j0 kq a1 l2 x36_5 a0_0 l0_1 = some r) ∧ Aside0 (kq ≤ k) ∧ Aside0 (wc.heap[gb195]? = some (.cells #[.int .i64 a0_0, (.slice A0_1 l0_1.length c0_1)] 24 (0, 0))) ∧ Aside0 (Below w.heap.size w wc))
    case first => as_aux_lemma =>
      have H := HC6.out
      clear HC6
      by_cases c9 : (l0_1.length : Int) > 200
      · rw [if_pos c9] at H
        have c9b0 : decide (200 < (l0_1.length : Int)) = true := decide_eq_true c9
        have c9b1 : decide (200 < l0_1.length) = true := decide_eq_true (by omega)
        clear c9
        (first | rw [c9b0] | (simp only [i64_w, i32_w]; rw [c9b0]) | skip)
        have H' := a5_ H
        clear H
        have hcz10_0 : w8.cell? ⟨gb195, 0, none⟩ = some (.int .i64 a0_0) := (blk_cell BK195.out 0).trans rfl
        have hcz10_1 : w8.cell? ⟨gb195, 1, none⟩ = some (.slice A0_1 l0_1.length c0_1) := (blk_cell BK195.out 1).trans rfl
        have hfz10_0 := blk_frozen BK195.out 0
        have hfz10_1 := blk_frozen BK195.out 1
        go_wp2
        go_meet
        case rel => exact ⟨_, (true), (by first | rfl | (simp; done) | (simp [*]; done)), H', ⟨by first | omega | exact Nat.le_refl _⟩, ⟨by (with_reducible repeat (first | refine blk_drewN ?_ _ | refine blk_drew ?_ | refine blk_alloc ?_ _)); exact BK195.out⟩, ⟨by repeat (first | (with_reducible first | exact HB.out | apply below_alloc | apply q5_ | apply below_drew1 | refine below_set ?_ GE195.out) | exact HB.out)⟩⟩
      · rw [if_neg c9] at H
        have c9b0 : decide (200 < (l0_1.length : Int)) = false := decide_eq_false c9
        have c9b1 : decide (200 < l0_1.length) = false := decide_eq_false (by omega)
        clear c9
        (first | rw [c9b0] | (simp only [i64_w, i32_w]; rw [c9b0]) | skip)
        have H' := a5_ H
        clear H
        have hcz11_0 : w8.cell? ⟨gb195, 0, none⟩ = some (.int .i64 a0_0) := (blk_cell BK195.out 0).trans rfl
        have hcz11_1 : w8.cell? ⟨gb195, 1, none⟩ = some (.slice A0_1 l0_1.length c0_1) := (blk_cell BK195.out 1).trans rfl
        have hfz11_0 := blk_frozen BK195.out 0
        have hfz11_1 := blk_frozen BK195.out 1
        go_wp2
        go_meet
        case rel => exact ⟨_, (decide ((l2.length : Int) > 200)), (by first | rfl | (simp; done) | (simp [*]; done)), H', ⟨by first | omega | exact Nat.le_refl _⟩, ⟨by (with_reducible repeat (first | refine blk_drewN ?_ _ | refine blk_drew ?_ | refine blk_alloc ?_ _)); exact BK195.out⟩, ⟨by repeat (first | (with_reducible first | exact HB.out | apply below_alloc | apply q5_ | apply below_drew1 | refine below_set ?_ GE195.out) | exact HB.out)⟩⟩
    case rest => as_aux_lemma =>
      clear HC6
      try clear c2
      try clear p2
      try clear c5
      try clear c6
      try clear c9
      try clear c9b0
      try clear c9b1
      try clear hcz10_0
      try clear hcz10_1
      try clear hcz11_0
      try clear hcz11_1
      try clear hfz10_0
      try clear hfz10_1
      try clear hfz11_0
      try clear hfz11_1
      obtain ⟨kq, x36_5, rfl, HA, HJ5, BK195, HB⟩ := hcut
      cases kq with
      | zero => exact absurd HA.out (by simp [codesearchlaw24_BlobShares.j0])
      | succ kj5 =>
        have H := HA.out
        clear HA
        simp only [codesearchlaw24_BlobShares.j0] at H
        by_cases c12 : x36_5 = true
        · subst c12
          have H1 : (some true) = some r := by rw [if_pos rfl] at H; exact H
          clear H
          have H := H1
          clear H1
          obtain rfl := Option.some.inj H
          go_wp2
          go_ret
          exact ⟨by first | rfl | (simp [errW_none, errW_some] <;> rfl) | (simp [*, errW_none, errW_some] <;> rfl), by repeat (first | (with_reducible first | exact HB.out | apply below_alloc | apply q5_ | apply below_drew1 | refine below_set ?_ GE195.out) | exact HB.out)⟩
        · replace c12 := Bool.eq_false_iff.mpr c12
          subst c12
          have H1 : ((blob_Put.f kj5 a0_0 l0_1 a1).bind fun bt197 => (if bt197.2.2.2 = 0 then ((blob_Get.f kj5 bt197.1 bt197.2.1 bt197.2.2.1).bind fun bt204 => ((blob_Put.f kj5 bt197.1 bt197.2.1 a1).bind fun bt206 => (if bt204.2 = true then (if bt204.1.toList = a1.toList then (if bt206.2.2.2 = 0 then (if bt206.2.2.1 = bt197.2.2.1 then ((codesearchref24_Same.f kj5 bt197.1 bt197.2.1 bt206.1 bt206.2.1).bind fun t213 => (if t213 = true then ((blob_Right.f kj5 bt197.1 bt197.2.1).bind fun t214 => (codesearchlaw24_BlobShares.j1 kj5 a1 l2 bt197.2.2.1 (t214 != 0) a0_0 l0_1 bt197.1 bt197.2.1)) else (codesearchlaw24_BlobShares.j1 kj5 a1 l2 bt197.2.2.1 true a0_0 l0_1 bt197.1 bt197.2.1))) else (codesearchlaw24_BlobShares.j1 kj5 a1 l2 bt197.2.2.1 true a0_0 l0_1 bt197.1 bt197.2.1)) else (codesearchlaw24_BlobShares.j1 kj5 a1 l2 bt197.2.2.1 true a0_0 l0_1 bt197.1 bt197.2.1)) else (codesearchlaw24_BlobShares.j1 kj5 a1 l2 bt197.2.2.1 true a0_0 l0_1 bt197.1 bt197.2.1)) else (codesearchlaw24_BlobShares.j1 kj5 a1 l2 bt197.2.2.1 true a0_0 l0_1 bt197.1 bt197.2.1)))) else (codesearchlaw24_BlobShares.j4 kj5 l2 a0_0 l0_1))) = some r := by rw [if_neg (show ¬ (false = true) by decide)] at H; exact H
          clear H
          have H := H1
          clear H1
          replace H := Option.bind_eq_some_iff.mp H
          obtain ⟨⟨t197, t198, t201, t202⟩, A130, H⟩ := H
          replace H : (if t202 = 0 then ((blob_Get.f kj5 t197 t198 t201).bind fun bt204 => ((blob_Put.f kj5 t197 t198 a1).bind fun bt206 => (if bt204.2 = true then (if bt204.1.toList = a1.toList then (if bt206.2.2.2 = 0 then (if bt206.2.2.1 = t201 then ((codesearchref24_Same.f kj5 t197 t198 bt206.1 bt206.2.1).bind fun t213 => (if t213 = true then ((blob_Right.f kj5 t197 t198).bind fun t214 => (codesearchlaw24_BlobShares.j1 kj5 a1 l2 t201 (t214 != 0) a0_0 l0_1 t197 t198)) else (codesearchlaw24_BlobShares.j1 kj5 a1 l2 t201 true a0_0 l0_1 t197 t198))) else (codesearchlaw24_BlobShares.j1 kj5 a1 l2 t201 true a0_0 l0_1 t197 t198)) else (codesearchlaw24_BlobShares.j1 kj5 a1 l2 t201 true a0_0 l0_1 t197 t198)) else (codesearchlaw24_BlobShares.j1 kj5 a1 l2 t201 true a0_0 l0_1 t197 t198)) else (codesearchlaw24_BlobShares.j1 kj5 a1 l2 t201 true a0_0 l0_1 t197 t198)))) else (codesearchlaw24_BlobShares.j4 kj5 l2 a0_0 l0_1)) = some r := H
          have A13 := a5_ A130
          clear A130
          have HC14 := a5_ H
          clear H
          have hcz15_0 : wc.cell? ⟨gb195, 0, none⟩ = some (.int .i64 a0_0) := (blk_cell BK195.out 0).trans rfl
          have hcz15_1 : wc.cell? ⟨gb195, 1, none⟩ = some (.slice A0_1 l0_1.length c0_1) := (blk_cell BK195.out 1).trans rfl
          have hfz15_0 := blk_frozen BK195.out 0
          have hfz15_1 := blk_frozen BK195.out 1
          go_upto_if 45 with (first | ((with_reducible refine gate_callee (f := 7) rfl ?_); refine goesL_ (some 40) rfl rfl Try.func7 (by kernel_rfl) rfl #[.agg #[.int .i64 a0_0, .slice A0_1 l0_1.length c0_1], .string a1] rfl (by (try simp only [List.map_toArray, List.map_cons, List.map_nil]); first | done | rfl | (simp only [List.length_drop, List.length_take]; rfl)) ?_; (with_reducible refine (blob_Put.calls kj5 a0_0 (fun k_ => k_ < w.heap.size) _ _ l0_1 a1 t197 t198 t201 t202 _ ?side1 A13.out).mono ?_); (case side1 => exact Kd.V_mk HC0_1.out (Kd.F_below (Kd.C_F k39_heap HR0_1.out) (by repeat (first | (with_reducible first | exact HB.out | apply below_alloc | apply q5_ | apply below_drew1 | refine below_set ?_ GE195.out) | exact HB.out)))); rintro e w16 ⟨v199, rfl, ho0, hb⟩; refine ⟨_, rfl, ?_⟩; have n0_ := a5_ (Kd.V_lower (Kd.V_mono (ok' := fun k_ => k_ ≠ gb195) ho0 (fun k_ hk_ => Or.elim hk_ (fun hs_ => fun e_ => Nat.not_le.2 hs_ (by rw [e_]; exact GW195.out)) (fun hn_ => (Kd.freshB (g := gb195) (o := .cells #[.int .i64 a0_0, .slice A0_1 l0_1.length c0_1] 24 (0, 0)) (by (with_reducible repeat (first | refine blk_drewN ?_ _ | refine blk_drew ?_ | refine blk_alloc ?_ _)); exact BK195.out) k_ hn_)))) (below_size (by repeat (first | (with_reducible first | exact HB.out | apply below_alloc | apply q5_ | apply below_drew1 | refine below_set ?_ GE195.out) | exact HB.out)))); have n1_ := a5_ (blk_below (g := gb195) (o := .cells #[.int .i64 a0_0, .slice A0_1 l0_1.length c0_1] 24 (0, 0)) (by (with_reducible repeat (first | refine blk_drewN ?_ _ | refine blk_drew ?_ | refine blk_alloc ?_ _)); exact BK195.out) hb); have n2_ := a5_ (below_step (by repeat (first | (with_reducible first | exact HB.out | apply below_alloc | apply q5_ | apply below_drew1 | refine below_set ?_ GE195.out) | exact HB.out)) hb); clear BK195; clear HB; have HO200 := n0_; have BK195 := n1_; have HB := n2_; clear n0_ n1_ n2_; (try clear hb); (try clear hb2); (try clear hk); (try clear hi); (try clear ho0)) | ((with_reducible refine gate_dst (N := 7) rfl ?_); (try (refine gate_guard (by rfl) ?_; dsimp only)); refine box_event ?hg (N := 7) ?hd (cs := #[.int .i64 0, .slice none 0 0]) (t := 24) ?hr ?_; (case hd => rfl); (case hg => rfl); (case hr => first | (go_simp; done) | (go_simp; rfl)); intro gb203 hg w17 hbox hb; have n0_ := a5_ (Kd.V_below (Kd.V_elderB (by (with_reducible repeat (first | apply Kd.V_alloc | apply Kd.V_drewN | apply Kd.V_drew)); exact HO200.out) gb203 (Nat.le_of_eq hg.symm)) hb); have n1_ := a5_ (blk_below (g := gb195) (o := .cells #[.int .i64 a0_0, .slice A0_1 l0_1.length c0_1] 24 (0, 0)) (by (with_reducible repeat (first | refine blk_drewN ?_ _ | refine blk_drew ?_ | refine blk_alloc ?_ _)); exact BK195.out) hb); have n2_ := a5_ (below_step (by repeat (first | (with_reducible first | exact HB.out | apply below_alloc | apply q5_ | apply below_drew1 | refine below_set ?_ GE195.out) | exact HB.out)) hb); have n3_ := a5_ (hbox); have n4_ := a5_ ((by rw [hg]; exact (below_size (by repeat (first | (with_reducible first | exact HB.out | apply below_alloc | apply q5_ | apply below_drew1 | refine below_set ?_ GE195.out) | exact HB.out))) : w.heap.size ≤ gb203)); have n5_ := a5_ ((by rw [hg]; exact (below_size (by repeat (first | (with_reducible first | exact HB.out | apply below_alloc | apply q5_ | apply below_drew1 | refine below_set ?_ GE195.out) | exact HB.out))) : w.heap.size ≤ gb203)); have n6_ := a5_ ((by rw [hg]; exact Nat.ne_of_lt (blk_lt (g := gb195) (o := .cells #[.int .i64 a0_0, .slice A0_1 l0_1.length c0_1] 24 (0, 0)) (by (with_reducible repeat (first | refine blk_drewN ?_ _ | refine blk_drew ?_ | refine blk_alloc ?_ _)); exact BK195.out)) : gb195 ≠ gb203)); have n7_ := a5_ ((by rw [hg]; exact Nat.ne_of_gt (blk_lt (g := gb195) (o := .cells #[.int .i64 a0_0, .slice A0_1 l0_1.length c0_1] 24 (0, 0)) (by (with_reducible repeat (first | refine blk_drewN ?_ _ | refine blk_drew ?_ | refine blk_alloc ?_ _)); exact BK195.out)) : gb203 ≠ gb195)); clear HO200; clear BK195; clear HB; have HO200 := n0_; have BK195 := n1_; have HB := n2_; have BK203 := n3_; have GW203 := n4_; have GE203 := n5_; have NB195_203 := n6_; have NB203_195 := n7_; clear n0_ n1_ n2_ n3_ n4_ n5_ n6_ n7_; clear hb hbox hg; have hnb18 := NB203_195.out; have hnc18 := NB195_203.out; have hcz19_0 : w17.cell? ⟨gb203, 0, none⟩ = some (.int .i64 0) := (blk_cell BK203.out 0).trans rfl; have hcz19_1 : w17.cell? ⟨gb203, 1, none⟩ = some (.slice none 0 0) := (blk_cell BK203.out 1).trans rfl; have hfz19_0 := blk_frozen BK203.out 0; have hfz19_1 := blk_frozen BK203.out 1; obtain ⟨Ao20, co20, eo20⟩ := Kd.V_slice HO200.out; subst eo20))
          (try simp only [Act.put, List.setIfInBounds_toArray, List.set_cons_zero, List.set_cons_succ])
          go_cut [] (fun wc => ∃ (kq : Nat), Aside0 (codesearchlaw24_BlobShares.j4 kq l2 a0_0 l0_1 = some r) ∧ Aside0 (kq ≤ kj5) ∧ Aside0 (Kd.V k39 39 wc w.heap.size (fun k_ => k_ ≠ gb195 ∧ k_ ≠ gb203) (.slice Ao20 t198.length co20) t198) ∧ Aside0 (wc.heap[gb195]? = some (.cells #[.int .i64 a0_0, (.slice A0_1 l0_1.length c0_1)] 24 (0, 0))) ∧ Aside0 (wc.heap[gb203]? = some (.cells #[.int .i64 t197, (.slice Ao20 t198.length co20)] 24 (0, 0))) ∧ Aside0 (Below w.heap.size w wc))
          case first => as_aux_lemma =>
            have H := HC14.out
            clear HC14
            by_cases c21 : t202 = 0
            · rw [if_pos c21] at H
              have c21b0 : (t202 == 0) = true := beq_iff_eq.mpr c21
              have c21b1 : (t202 != 0) = false := bne_eq_false_iff_eq.mpr c21
              clear c21
              (first | rw [c21b0] | (simp only [i64_w, i32_w]; rw [c21b0]) | skip)
              replace H := Option.bind_eq_some_iff.mp H
              obtain ⟨⟨t204, t205⟩, A220, H⟩ := H
              replace H : ((blob_Put.f kj5 t197 t198 a1).bind fun bt206 => (if t205 = true then (if t204.toList = a1.toList then (if bt206.2.2.2 = 0 then (if bt206.2.2.1 = t201 then ((codesearchref24_Same.f kj5 t197 t198 bt206.1 bt206.2.1).bind fun t213 => (if t213 = true then ((blob_Right.f kj5 t197 t198).bind fun t214 => (codesearchlaw24_BlobShares.j1 kj5 a1 l2 t201 (t214 != 0) a0_0 l0_1 t197 t198)) else (codesearchlaw24_BlobShares.j1 kj5 a1 l2 t201 true a0_0 l0_1 t197 t198))) else (codesearchlaw24_BlobShares.j1 kj5 a1 l2 t201 true a0_0 l0_1 t197 t198)) else (codesearchlaw24_BlobShares.j1 kj5 a1 l2 t201 true a0_0 l0_1 t197 t198)) else (codesearchlaw24_BlobShares.j1 kj5 a1 l2 t201 true a0_0 l0_1 t197 t198)) else (codesearchlaw24_BlobShares.j1 kj5 a1 l2 t201 true a0_0 l0_1 t197 t198))) = some r := H
              have A22 := a5_ A220
              clear A220
              replace H := Option.bind_eq_some_iff.mp H
              obtain ⟨⟨t206, t207, t210, t211⟩, A230, H⟩ := H
              replace H : (if t205 = true then (if t204.toList = a1.toList then (if t211 = 0 then (if t210 = t201 then ((codesearchref24_Same.f kj5 t197 t198 t206 t207).bind fun t213 => (if t213 = true then ((blob_Right.f kj5 t197 t198).bind fun t214 => (codesearchlaw24_BlobShares.j1 kj5 a1 l2 t201 (t214 != 0) a0_0 l0_1 t197 t198)) else (codesearchlaw24_BlobShares.j1 kj5 a1 l2 t201 true a0_0 l0_1 t197 t198))) else (codesearchlaw24_BlobShares.j1 kj5 a1 l2 t201 true a0_0 l0_1 t197 t198)) else (codesearchlaw24_BlobShares.j1 kj5 a1 l2 t201 true a0_0 l0_1 t197 t198)) else (codesearchlaw24_BlobShares.j1 kj5 a1 l2 t201 true a0_0 l0_1 t197 t198)) else (codesearchlaw24_BlobShares.j1 kj5 a1 l2 t201 true a0_0 l0_1 t197 t198)) = some r := H
              have A23 := a5_ A230
              clear A230
              have HC24 := a5_ H
              clear H
              have hnb25 := NB203_195.out
              have hnc25 := NB195_203.out
              have hcz26_0 : w17.cell? ⟨gb203, 0, none⟩ = some (.int .i64 0) := (blk_cell BK203.out 0).trans rfl
              have hcz26_1 : w17.cell? ⟨gb203, 1, none⟩ = some (.slice none 0 0) := (blk_cell BK203.out 1).trans rfl
              have hfz26_0 := blk_frozen BK203.out 0
              have hfz26_1 := blk_frozen BK203.out 1
              go_upto_region 9 with (first | ((with_reducible refine gate_callee (f := 15) rfl ?_); refine goesL_ (some 49) rfl rfl Try.func15 (by kernel_rfl) rfl #[.agg #[.int .i64 t197, .slice Ao20 t198.length co20], .int .i64 t201] rfl (by (try simp only [List.map_toArray, List.map_cons, List.map_nil]); first | done | rfl | (simp only [List.length_drop, List.length_take]; rfl)) ?_; (with_reducible refine (blob_Get.calls kj5 t197 _ _ t198 t201 t204 t205 _ ?side1 ?side2 A22.out).mono ?_); (case side1 => refine (Kd.V_reads' (e := 39) (base := w.heap.size) (ok := fun k_ => (k_ ≠ gb195 ∧ k_ ≠ gb203)) (n := t198.length) (c := co20) ?_).2.2; exact (by (with_reducible repeat (first | apply Kd.V_alloc | apply Kd.V_drewN | apply Kd.V_drew)); exact (Kd.V_mono (Kd.V_far (p := ⟨gb203, 1, none⟩) (Kd.V_far (p := ⟨gb203, 0, none⟩) (Kd.V_mono HO200.out (fun k_ hk => (⟨hk, hk.2⟩ : _ ∧ k_ ≠ gb203))) (fun _ hk => hk.2) (.int .i64 t197)) (fun _ hk => hk.2) (.slice Ao20 t198.length co20)) (fun _ h_ => h_.1)))); (case side2 => exact (Kd.V_reads' HO200.out).2.1); rintro e w27 ⟨rfl, hb⟩; refine ⟨_, rfl, ?_⟩; have n0_ := a5_ (Kd.V_below (by (with_reducible repeat (first | apply Kd.V_alloc | apply Kd.V_drewN | apply Kd.V_drew)); exact (Kd.V_mono (Kd.V_far (p := ⟨gb203, 1, none⟩) (Kd.V_far (p := ⟨gb203, 0, none⟩) (Kd.V_mono HO200.out (fun k_ hk => (⟨hk, hk.2⟩ : _ ∧ k_ ≠ gb203))) (fun _ hk => hk.2) (.int .i64 t197)) (fun _ hk => hk.2) (.slice Ao20 t198.length co20)) (fun _ h_ => h_.1))) hb); have n1_ := a5_ (blk_below (g := gb195) (o := .cells #[.int .i64 a0_0, .slice A0_1 l0_1.length c0_1] 24 (0, 0)) (by (with_reducible repeat (first | refine blk_drewN ?_ _ | refine blk_drew ?_ | refine blk_alloc ?_ _)); refine blk_far ?_ NB195_203.out _; (with_reducible repeat (first | refine blk_drewN ?_ _ | refine blk_drew ?_ | refine blk_alloc ?_ _)); refine blk_far ?_ NB195_203.out _; (with_reducible repeat (first | refine blk_drewN ?_ _ | refine blk_drew ?_ | refine blk_alloc ?_ _)); exact BK195.out) hb); have n2_ := a5_ (blk_below (g := gb203) (o := .cells #[.int .i64 t197, .slice Ao20 t198.length co20] 24 (0, 0)) (by (with_reducible repeat (first | refine blk_drewN ?_ _ | refine blk_drew ?_ | refine blk_alloc ?_ _)); refine blk_put (cs := #[.int .i64 t197, .slice none 0 0]) ?_ 1 _ rfl; (with_reducible repeat (first | refine blk_drewN ?_ _ | refine blk_drew ?_ | refine blk_alloc ?_ _)); refine blk_put (cs := #[.int .i64 0, .slice none 0 0]) ?_ 0 _ rfl; (with_reducible repeat (first | refine blk_drewN ?_ _ | refine blk_drew ?_ | refine blk_alloc ?_ _)); exact BK203.out) hb); have n3_ := a5_ (below_step (by repeat (first | (with_reducible first | exact HB.out | apply below_alloc | apply q5_ | apply below_drew1 | refine below_set ?_ GE195.out | refine below_set ?_ GE203.out) | exact HB.out)) hb); clear HO200; clear BK195; clear BK203; clear HB; have HO200 := n0_; have BK195 := n1_; have BK203 := n2_; have HB := n3_; clear n0_ n1_ n2_ n3_; (try clear hb); (try clear hb2); (try clear hk); (try clear hi); have hcz28_0 : w27.cell? ⟨gb203, 0, none⟩ = some (.int .i64 t197) := (blk_cell BK203.out 0).trans rfl; have hcz28_1 : w27.cell? ⟨gb203, 1, none⟩ = some (.slice Ao20 t198.length co20) := (blk_cell BK203.out 1).trans rfl; have hfz28_0 := blk_frozen BK203.out 0; have hfz28_1 := blk_frozen BK203.out 1) | ((with_reducible refine gate_callee (f := 7) rfl ?_); refine goesL_ (some 55) rfl rfl Try.func7 (by kernel_rfl) rfl #[.agg #[.int .i64 t197, .slice Ao20 t198.length co20], .string a1] rfl (by (try simp only [List.map_toArray, List.map_cons, List.map_nil]); first | done | rfl | (simp only [List.length_drop, List.length_take]; rfl)) ?_; (with_reducible refine (blob_Put.calls kj5 t197 (fun k_ => (k_ ≠ gb195 ∧ k_ ≠ gb203)) _ _ t198 a1 t206 t207 t210 t211 _ ?side1 A23.out).mono ?_); (case side1 => exact HO200.out); rintro e w29 ⟨v208, rfl, ho0, hb⟩; refine ⟨_, rfl, ?_⟩; have n0_ := a5_ (Kd.V_below (by (with_reducible repeat (first | apply Kd.V_alloc | apply Kd.V_drewN | apply Kd.V_drew)); exact HO200.out) hb); have n1_ := a5_ (Kd.V_lower (Kd.V_mono (ok' := fun k_ => k_ ≠ gb195 ∧ k_ ≠ gb203) ho0 (fun k_ hk_ => ⟨Or.elim hk_ (fun hs_ => hs_.1) (fun hn_ => (Kd.freshB (g := gb195) (o := .cells #[.int .i64 a0_0, .slice A0_1 l0_1.length c0_1] 24 (0, 0)) (by (with_reducible repeat (first | refine blk_drewN ?_ _ | refine blk_drew ?_ | refine blk_alloc ?_ _)); exact BK195.out) k_ hn_)), Or.elim hk_ (fun hs_ => hs_.2) (fun hn_ => (Kd.freshB (g := gb203) (o := .cells #[.int .i64 t197, .slice Ao20 t198.length co20] 24 (0, 0)) (by (with_reducible repeat (first | refine blk_drewN ?_ _ | refine blk_drew ?_ | refine blk_alloc ?_ _)); exact BK203.out) k_ hn_))⟩)) (below_size (by repeat (first | (with_reducible first | exact HB.out | apply below_alloc | apply q5_ | apply below_drew1 | refine below_set ?_ GE195.out | refine below_set ?_ GE203.out) | exact HB.out)))); have n2_ := a5_ (blk_below (g := gb195) (o := .cells #[.int .i64 a0_0, .slice A0_1 l0_1.length c0_1] 24 (0, 0)) (by (with_reducible repeat (first | refine blk_drewN ?_ _ | refine blk_drew ?_ | refine blk_alloc ?_ _)); exact BK195.out) hb); have n3_ := a5_ (blk_below (g := gb203) (o := .cells #[.int .i64 t197, .slice Ao20 t198.length co20] 24 (0, 0)) (by (with_reducible repeat (first | refine blk_drewN ?_ _ | refine blk_drew ?_ | refine blk_alloc ?_ _)); exact BK203.out) hb); have n4_ := a5_ (below_step (by repeat (first | (with_reducible first | exact HB.out | apply below_alloc | apply q5_ | apply below_drew1 | refine below_set ?_ GE195.out | refine below_set ?_ GE203.out) | exact HB.out)) hb); clear HO200; clear BK195; clear BK203; clear HB; have HO200 := n0_; have HO209 := n1_; have BK195 := n2_; have BK203 := n3_; have HB := n4_; clear n0_ n1_ n2_ n3_ n4_; (try clear hb); (try clear hb2); (try clear hk); (try clear hi); (try clear ho0)) | ((with_reducible refine gate_dst (N := 12) rfl ?_); (try (refine gate_guard (by rfl) ?_; dsimp only)); refine box_event ?hg (N := 12) ?hd (cs := #[.int .i64 0, .slice none 0 0]) (t := 24) ?hr ?_; (case hd => rfl); (case hg => rfl); (case hr => first | (go_simp; done) | (go_simp; rfl)); intro gb212 hg w30 hbox hb; have n0_ := a5_ (Kd.V_below (Kd.V_elderB (by (with_reducible repeat (first | apply Kd.V_alloc | apply Kd.V_drewN | apply Kd.V_drew)); exact HO200.out) gb212 (Nat.le_of_eq hg.symm)) hb); have n1_ := a5_ (Kd.V_below (Kd.V_elderB (by (with_reducible repeat (first | apply Kd.V_alloc | apply Kd.V_drewN | apply Kd.V_drew)); exact HO209.out) gb212 (Nat.le_of_eq hg.symm)) hb); have n2_ := a5_ (blk_below (g := gb195) (o := .cells #[.int .i64 a0_0, .slice A0_1 l0_1.length c0_1] 24 (0, 0)) (by (with_reducible repeat (first | refine blk_drewN ?_ _ | refine blk_drew ?_ | refine blk_alloc ?_ _)); exact BK195.out) hb); have n3_ := a5_ (blk_below (g := gb203) (o := .cells #[.int .i64 t197, .slice Ao20 t198.length co20] 24 (0, 0)) (by (with_reducible repeat (first | refine blk_drewN ?_ _ | refine blk_drew ?_ | refine blk_alloc ?_ _)); exact BK203.out) hb); have n4_ := a5_ (below_step (by repeat (first | (with_reducible first | exact HB.out | apply below_alloc | apply q5_ | apply below_drew1 | refine below_set ?_ GE195.out | refine below_set ?_ GE203.out) | exact HB.out)) hb); have n5_ := a5_ (hbox); have n6_ := a5_ ((by rw [hg]; exact (below_size (by repeat (first | (with_reducible first | exact HB.out | apply below_alloc | apply q5_ | apply below_drew1 | refine below_set ?_ GE195.out | refine below_set ?_ GE203.out) | exact HB.out))) : w.heap.size ≤ gb212)); have n7_ := a5_ ((by rw [hg]; exact (below_size (by repeat (first | (with_reducible first | exact HB.out | apply below_alloc | apply q5_ | apply below_drew1 | refine below_set ?_ GE195.out | refine below_set ?_ GE203.out) | exact HB.out))) : w.heap.size ≤ gb212)); have n8_ := a5_ ((by rw [hg]; exact Nat.ne_of_lt (blk_lt (g := gb195) (o := .cells #[.int .i64 a0_0, .slice A0_1 l0_1.length c0_1] 24 (0, 0)) (by (with_reducible repeat (first | refine blk_drewN ?_ _ | refine blk_drew ?_ | refine blk_alloc ?_ _)); exact BK195.out)) : gb195 ≠ gb212)); have n9_ := a5_ ((by rw [hg]; exact Nat.ne_of_gt (blk_lt (g := gb195) (o := .cells #[.int .i64 a0_0, .slice A0_1 l0_1.length c0_1] 24 (0, 0)) (by (with_reducible repeat (first | refine blk_drewN ?_ _ | refine blk_drew ?_ | refine blk_alloc ?_ _)); exact BK195.out)) : gb212 ≠ gb195)); have n10_ := a5_ ((by rw [hg]; exact Nat.ne_of_lt (blk_lt (g := gb203) (o := .cells #[.int .i64 t197, .slice Ao20 t198.length co20] 24 (0, 0)) (by (with_reducible repeat (first | refine blk_drewN ?_ _ | refine blk_drew ?_ | refine blk_alloc ?_ _)); exact BK203.out)) : gb203 ≠ gb212)); have n11_ := a5_ ((by rw [hg]; exact Nat.ne_of_gt (blk_lt (g := gb203) (o := .cells #[.int .i64 t197, .slice Ao20 t198.length co20] 24 (0, 0)) (by (with_reducible repeat (first | refine blk_drewN ?_ _ | refine blk_drew ?_ | refine blk_alloc ?_ _)); exact BK203.out)) : gb212 ≠ gb203)); clear HO200; clear HO209; clear BK195; clear BK203; clear HB; have HO200 := n0_; have HO209 := n1_; have BK195 := n2_; have BK203 := n3_; have HB := n4_; have BK212 := n5_; have GW212 := n6_; have GE212 := n7_; have NB195_212 := n8_; have NB212_195 := n9_; have NB203_212 := n10_; have NB212_203 := n11_; clear n0_ n1_ n2_ n3_ n4_ n5_ n6_ n7_ n8_ n9_ n10_ n11_; clear hb hbox hg; have hnb31 := NB212_195.out; have hnc31 := NB195_212.out; have hnb32 := NB212_203.out; have hnc32 := NB203_212.out; have hcz33_0 : w30.cell? ⟨gb212, 0, none⟩ = some (.int .i64 0) := (blk_cell BK212.out 0).trans rfl; have hcz33_1 : w30.cell? ⟨gb212, 1, none⟩ = some (.slice none 0 0) := (blk_cell BK212.out 1).trans rfl; have hfz33_0 := blk_frozen BK212.out 0; have hfz33_1 := blk_frozen BK212.out 1; obtain ⟨Ao34, co34, eo34⟩ := Kd.V_slice HO209.out; subst eo34))
              (try simp only [Act.put, List.setIfInBounds_toArray, List.set_cons_zero, List.set_cons_succ])
              go_cut [85] (fun v85 wc => ∃ (kq : Nat) (x85_23 : Bool), v85 = .bool x85_23 ∧ Aside0 (codesearchlaw24_BlobShares.j1 kq a1 l2 t201 x85_23 a0_0 l0_1 t197 t198 = some r) ∧ Aside0 (kq ≤ kj5) ∧ Aside0 (Kd.V k39 39 wc w.heap.size (fun k_ => k_ ≠ gb195 ∧ k_ ≠ gb203 ∧ k_ ≠ gb212) (.slice Ao20 t198.length co20) t198) ∧ Aside0 (Kd.V k39 39 wc w.heap.size (fun k_ => k_ ≠ gb195 ∧ k_ ≠ gb203 ∧ k_ ≠ gb212) (.slice Ao34 t207.length co34) t207) ∧ Aside0 (wc.heap[gb195]? = some (.cells #[.int .i64 a0_0, (.slice A0_1 l0_1.length c0_1)] 24 (0, 0))) ∧ Aside0 (wc.heap[gb203]? = some (.cells #[.int .i64 t197, (.slice Ao20 t198.length co20)] 24 (0, 0))) ∧ Aside0 (wc.heap[gb212]? = some (.cells #[.int .i64 t206, (.slice Ao34 t207.length co34)] 24 (0, 0))) ∧ Aside0 (Below w.heap.size w wc))
              case first => as_aux_lemma =>
                have H := HC24.out
                clear HC24
                by_cases c35 : t205 = true
                · subst c35
                  have H1 : (if t204.toList = a1.toList then (if t211 = 0 then (if t210 = t201 then ((codesearchref24_Same.f kj5 t197 t198 t206 t207).bind fun t213 => (if t213 = true then ((blob_Right.f kj5 t197 t198).bind fun t214 => (codesearchlaw24_BlobShares.j1 kj5 a1 l2 t201 (t214 != 0) a0_0 l0_1 t197 t198)) else (codesearchlaw24_BlobShares.j1 kj5 a1 l2 t201 true a0_0 l0_1 t197 t198))) else (codesearchlaw24_BlobShares.j1 kj5 a1 l2 t201 true a0_0 l0_1 t197 t198)) else (codesearchlaw24_BlobShares.j1 kj5 a1 l2 t201 true a0_0 l0_1 t197 t198)) else (codesearchlaw24_BlobShares.j1 kj5 a1 l2 t201 true a0_0 l0_1 t197 t198)) = some r := by rw [if_pos rfl] at H; exact H
                  clear H
                  have H := H1
                  clear H1
                  by_cases c36 : t204.toList = a1.toList
                  · rw [if_pos c36] at H
                    have c36b0 : (t204.toList == a1.toList) = true := beq_iff_eq.mpr c36
                    have c36b1 : (t204.toList != a1.toList) = false := bne_eq_false_iff_eq.mpr c36
                    clear c36
                    (first | rw [c36b0] | (simp only [i64_w, i32_w]; rw [c36b0]) | skip)
                    by_cases c37 : t211 = 0
                    · rw [if_pos c37] at H
                      have c37b0 : (t211 == 0) = true := beq_iff_eq.mpr c37
                      have c37b1 : (t211 != 0) = false := bne_eq_false_iff_eq.mpr c37
                      clear c37
                      by_cases c38 : t210 = t201
                      · rw [if_pos c38] at H
                        have c38b0 : (t210 == t201) = true := beq_iff_eq.mpr c38
                        have c38b1 : (t210 != t201) = false := bne_eq_false_iff_eq.mpr c38
                        clear c38
                        replace H := Option.bind_eq_some_iff.mp H
                        obtain ⟨t213, A390, H⟩ := H
                        replace H : (if t213 = true then ((blob_Right.f kj5 t197 t198).bind fun t214 => (codesearchlaw24_BlobShares.j1 kj5 a1 l2 t201 (t214 != 0) a0_0 l0_1 t197 t198)) else (codesearchlaw24_BlobShares.j1 kj5 a1 l2 t201 true a0_0 l0_1 t197 t198)) = some r := H
                        have A39 := a5_ A390
                        clear A390
                        by_cases c40 : t213 = true
                        · subst c40
                          have H1 : ((blob_Right.f kj5 t197 t198).bind fun t214 => (codesearchlaw24_BlobShares.j1 kj5 a1 l2 t201 (t214 != 0) a0_0 l0_1 t197 t198)) = some r := by rw [if_pos rfl] at H; exact H
                          clear H
                          have H := H1
                          clear H1
                          replace H := Option.bind_eq_some_iff.mp H
                          obtain ⟨t214, A410, H⟩ := H
                          replace H : (codesearchlaw24_BlobShares.j1 kj5 a1 l2 t201 (t214 != 0) a0_0 l0_1 t197 t198) = some r := H
                          have A41 := a5_ A410
                          clear A410
                          have H' := a5_ H
                          clear H
                          have hnb42 := NB203_195.out
                          have hnc42 := NB195_203.out
                          have hnb43 := NB203_212.out
                          have hnc43 := NB212_203.out
                          have hcz44_0 : w30.cell? ⟨gb203, 0, none⟩ = some (.int .i64 t197) := (blk_cell BK203.out 0).trans rfl
                          have hcz44_1 : w30.cell? ⟨gb203, 1, none⟩ = some (.slice Ao20 t198.length co20) := (blk_cell BK203.out 1).trans rfl
                          have hfz44_0 := blk_frozen BK203.out 0
                          have hfz44_1 := blk_frozen BK203.out 1
                          have hnb45 := NB212_195.out
                          have hnc45 := NB195_212.out
                          have hcz46_0 : w30.cell? ⟨gb212, 0, none⟩ = some (.int .i64 0) := (blk_cell BK212.out 0).trans rfl
                          have hcz46_1 : w30.cell? ⟨gb212, 1, none⟩ = some (.slice none 0 0) := (blk_cell BK212.out 1).trans rfl
                          have hfz46_0 := blk_frozen BK212.out 0
                          have hfz46_1 := blk_frozen BK212.out 1
                          go_wp2_with (first | (go_at_call 9; (with_reducible refine (codesearchref24_Same.calls kj5 t197 _ _ t198 t206 _ _ t207 true _ ?side1 ?side2 ?side3 ?side4 A39.out).mono ?_); (case side1 => refine (Kd.V_reads' (e := 39) (base := w.heap.size) (ok := fun k_ => ((k_ ≠ gb195 ∧ k_ ≠ gb203) ∧ k_ ≠ gb212)) (n := t198.length) (c := co20) ?_).2.2; exact (by (with_reducible repeat (first | apply Kd.V_alloc | apply Kd.V_drewN | apply Kd.V_drew)); exact (Kd.V_mono (Kd.V_far (p := ⟨gb212, 1, none⟩) (Kd.V_far (p := ⟨gb212, 0, none⟩) (Kd.V_mono HO200.out (fun k_ hk => (⟨hk, hk.2⟩ : _ ∧ k_ ≠ gb212))) (fun _ hk => hk.2) (.int .i64 t206)) (fun _ hk => hk.2) (.slice Ao34 t207.length co34)) (fun _ h_ => h_.1)))); (case side2 => exact (Kd.V_reads' HO200.out).2.1); (case side3 => refine (Kd.V_reads' (e := 39) (base := w.heap.size) (ok := fun k_ => ((k_ ≠ gb195 ∧ k_ ≠ gb203) ∧ k_ ≠ gb212)) (n := t207.length) (c := co34) ?_).2.2; exact (by (with_reducible repeat (first | apply Kd.V_alloc | apply Kd.V_drewN | apply Kd.V_drew)); exact (Kd.V_mono (Kd.V_far (p := ⟨gb212, 1, none⟩) (Kd.V_far (p := ⟨gb212, 0, none⟩) (Kd.V_mono HO209.out (fun k_ hk => (⟨hk, hk.2⟩ : _ ∧ k_ ≠ gb212))) (fun _ hk => hk.2) (.int .i64 t206)) (fun _ hk => hk.2) (.slice Ao34 t207.length co34)) (fun _ h_ => h_.1)))); (case side4 => exact (Kd.V_reads' HO209.out).2.1); rintro e w47 ⟨rfl, hb⟩; have n0_ := a5_ (Kd.V_below (by (with_reducible repeat (first | apply Kd.V_alloc | apply Kd.V_drewN | apply Kd.V_drew)); exact (Kd.V_mono (Kd.V_far (p := ⟨gb212, 1, none⟩) (Kd.V_far (p := ⟨gb212, 0, none⟩) (Kd.V_mono HO200.out (fun k_ hk => (⟨hk, hk.2⟩ : _ ∧ k_ ≠ gb212))) (fun _ hk => hk.2) (.int .i64 t206)) (fun _ hk => hk.2) (.slice Ao34 t207.length co34)) (fun _ h_ => h_.1))) hb); have n1_ := a5_ (Kd.V_below (by (with_reducible repeat (first | apply Kd.V_alloc | apply Kd.V_drewN | apply Kd.V_drew)); exact (Kd.V_mono (Kd.V_far (p := ⟨gb212, 1, none⟩) (Kd.V_far (p := ⟨gb212, 0, none⟩) (Kd.V_mono HO209.out (fun k_ hk => (⟨hk, hk.2⟩ : _ ∧ k_ ≠ gb212))) (fun _ hk => hk.2) (.int .i64 t206)) (fun _ hk => hk.2) (.slice Ao34 t207.length co34)) (fun _ h_ => h_.1))) hb); have n2_ := a5_ (blk_below (g := gb195) (o := .cells #[.int .i64 a0_0, .slice A0_1 l0_1.length c0_1] 24 (0, 0)) (by (with_reducible repeat (first | refine blk_drewN ?_ _ | refine blk_drew ?_ | refine blk_alloc ?_ _)); refine blk_far ?_ NB195_212.out _; (with_reducible repeat (first | refine blk_drewN ?_ _ | refine blk_drew ?_ | refine blk_alloc ?_ _)); refine blk_far ?_ NB195_212.out _; (with_reducible repeat (first | refine blk_drewN ?_ _ | refine blk_drew ?_ | refine blk_alloc ?_ _)); exact BK195.out) hb); have n3_ := a5_ (blk_below (g := gb203) (o := .cells #[.int .i64 t197, .slice Ao20 t198.length co20] 24 (0, 0)) (by (with_reducible repeat (first | refine blk_drewN ?_ _ | refine blk_drew ?_ | refine blk_alloc ?_ _)); refine blk_far ?_ NB203_212.out _; (with_reducible repeat (first | refine blk_drewN ?_ _ | refine blk_drew ?_ | refine blk_alloc ?_ _)); refine blk_far ?_ NB203_212.out _; (with_reducible repeat (first | refine blk_drewN ?_ _ | refine blk_drew ?_ | refine blk_alloc ?_ _)); exact BK203.out) hb); have n4_ := a5_ (blk_below (g := gb212) (o := .cells #[.int .i64 t206, .slice Ao34 t207.length co34] 24 (0, 0)) (by (with_reducible repeat (first | refine blk_drewN ?_ _ | refine blk_drew ?_ | refine blk_alloc ?_ _)); refine blk_put (cs := #[.int .i64 t206, .slice none 0 0]) ?_ 1 _ rfl; (with_reducible repeat (first | refine blk_drewN ?_ _ | refine blk_drew ?_ | refine blk_alloc ?_ _)); refine blk_put (cs := #[.int .i64 0, .slice none 0 0]) ?_ 0 _ rfl; (with_reducible repeat (first | refine blk_drewN ?_ _ | refine blk_drew ?_ | refine blk_alloc ?_ _)); exact BK212.out) hb); have n5_ := a5_ (below_step (by repeat (first | (with_reducible first | exact HB.out | apply below_alloc | apply q5_ | apply below_drew1 | refine below_set ?_ GE195.out | refine below_set ?_ GE203.out | refine below_set ?_ GE212.out) | exact HB.out)) hb); clear HO200; clear HO209; clear BK195; clear BK203; clear BK212; clear HB; have HO200 := n0_; have HO209 := n1_; have BK195 := n2_; have BK203 := n3_; have BK212 := n4_; have HB := n5_; clear n0_ n1_ n2_ n3_ n4_ n5_; (try clear hb); (try clear hb2); (try clear hk); (try clear hi); have hcz48_0 : w47.cell? ⟨gb203, 0, none⟩ = some (.int .i64 t197) := (blk_cell BK203.out 0).trans rfl; have hcz48_1 : w47.cell? ⟨gb203, 1, none⟩ = some (.slice Ao20 t198.length co20) := (blk_cell BK203.out 1).trans rfl; have hfz48_0 := blk_frozen BK203.out 0; have hfz48_1 := blk_frozen BK203.out 1) | (go_at_call 12; (with_reducible refine (blob_Right.calls kj5 t197 _ _ t198 t214 _ ?side1 ?side2 A41.out).mono ?_); (case side1 => repeat (first | exact (Kd.V_reads' HO200.out).2.2 | (with_reducible refine Kd.C_alloc ?_ _) | (with_reducible refine Kd.C_drewN ?_ _) | (with_reducible refine Kd.C_drew ?_))); (case side2 => exact (Kd.V_reads' HO200.out).2.1); rintro e w49 ⟨rfl, hb⟩; have n0_ := a5_ (Kd.V_below (by (with_reducible repeat (first | apply Kd.V_alloc | apply Kd.V_drewN | apply Kd.V_drew)); exact HO200.out) hb); have n1_ := a5_ (Kd.V_below (by (with_reducible repeat (first | apply Kd.V_alloc | apply Kd.V_drewN | apply Kd.V_drew)); exact HO209.out) hb); have n2_ := a5_ (blk_below (g := gb195) (o := .cells #[.int .i64 a0_0, .slice A0_1 l0_1.length c0_1] 24 (0, 0)) (by (with_reducible repeat (first | refine blk_drewN ?_ _ | refine blk_drew ?_ | refine blk_alloc ?_ _)); exact BK195.out) hb); have n3_ := a5_ (blk_below (g := gb203) (o := .cells #[.int .i64 t197, .slice Ao20 t198.length co20] 24 (0, 0)) (by (with_reducible repeat (first | refine blk_drewN ?_ _ | refine blk_drew ?_ | refine blk_alloc ?_ _)); exact BK203.out) hb); have n4_ := a5_ (blk_below (g := gb212) (o := .cells #[.int .i64 t206, .slice Ao34 t207.length co34] 24 (0, 0)) (by (with_reducible repeat (first | refine blk_drewN ?_ _ | refine blk_drew ?_ | refine blk_alloc ?_ _)); exact BK212.out) hb); have n5_ := a5_ (below_step (by repeat (first | (with_reducible first | exact HB.out | apply below_alloc | apply q5_ | apply below_drew1 | refine below_set ?_ GE195.out | refine below_set ?_ GE203.out | refine below_set ?_ GE212.out) | exact HB.out)) hb); clear HO200; clear HO209; clear BK195; clear BK203; clear BK212; clear HB; have HO200 := n0_; have HO209 := n1_; have BK195 := n2_; have BK203 := n3_; have BK212 := n4_; have HB := n5_; clear n0_ n1_ n2_ n3_ n4_ n5_; (try clear hb); (try clear hb2); (try clear hk); (try clear hi)))
                          go_meet
                          case rel => exact ⟨_, ((t214 != 0)), (by first | rfl | (simp; done) | (simp [*]; done)), H', ⟨by have := HJ5.out; first | omega | exact Nat.le_refl _⟩, ⟨by (with_reducible repeat (first | apply Kd.V_alloc | apply Kd.V_drewN | apply Kd.V_drew)); exact Kd.V_mono HO200.out (fun _ hk => ⟨hk.1.1, ⟨hk.1.2, hk.2⟩⟩)⟩, ⟨by (with_reducible repeat (first | apply Kd.V_alloc | apply Kd.V_drewN | apply Kd.V_drew)); exact Kd.V_mono HO209.out (fun _ hk => ⟨hk.1.1, ⟨hk.1.2, hk.2⟩⟩)⟩, ⟨by (with_reducible repeat (first | refine blk_drewN ?_ _ | refine blk_drew ?_ | refine blk_alloc ?_ _)); exact BK195.out⟩, ⟨by (with_reducible repeat (first | refine blk_drewN ?_ _ | refine blk_drew ?_ | refine blk_alloc ?_ _)); exact BK203.out⟩, ⟨by (with_reducible repeat (first | refine blk_drewN ?_ _ | refine blk_drew ?_ | refine blk_alloc ?_ _)); exact BK212.out⟩, ⟨by repeat (first | (with_reducible first | exact HB.out | apply below_alloc | apply q5_ | apply below_drew1 | refine below_set ?_ GE195.out | refine below_set ?_ GE203.out | refine below_set ?_ GE212.out) | exact HB.out)⟩⟩
                        · replace c40 := Bool.eq_false_iff.mpr c40
                          subst c40
                          have H1 : (codesearchlaw24_BlobShares.j1 kj5 a1 l2 t201 true a0_0 l0_1 t197 t198) = some r := by rw [if_neg (show ¬ (false = true) by decide)] at H; exact H
                          clear H
                          have H := H1
                          clear H1
                          have H' := a5_ H
                          clear H
                          have hnb50 := NB203_195.out
                          have hnc50 := NB195_203.out
                          have hnb51 := NB203_212.out
                          have hnc51 := NB212_203.out
                          have hcz52_0 : w30.cell? ⟨gb203, 0, none⟩ = some (.int .i64 t197) := (blk_cell BK203.out 0).trans rfl
                          have hcz52_1 : w30.cell? ⟨gb203, 1, none⟩ = some (.slice Ao20 t198.length co20) := (blk_cell BK203.out 1).trans rfl
                          have hfz52_0 := blk_frozen BK203.out 0
                          have hfz52_1 := blk_frozen BK203.out 1
                          have hnb53 := NB212_195.out
                          have hnc53 := NB195_212.out
                          have hcz54_0 : w30.cell? ⟨gb212, 0, none⟩ = some (.int .i64 0) := (blk_cell BK212.out 0).trans rfl
                          have hcz54_1 : w30.cell? ⟨gb212, 1, none⟩ = some (.slice none 0 0) := (blk_cell BK212.out 1).trans rfl
                          have hfz54_0 := blk_frozen BK212.out 0
                          have hfz54_1 := blk_frozen BK212.out 1
                          go_wp2_with (first | (go_at_call 9; (with_reducible refine (codesearchref24_Same.calls kj5 t197 _ _ t198 t206 _ _ t207 false _ ?side1 ?side2 ?side3 ?side4 A39.out).mono ?_); (case side1 => refine (Kd.V_reads' (e := 39) (base := w.heap.size) (ok := fun k_ => ((k_ ≠ gb195 ∧ k_ ≠ gb203) ∧ k_ ≠ gb212)) (n := t198.length) (c := co20) ?_).2.2; exact (by (with_reducible repeat (first | apply Kd.V_alloc | apply Kd.V_drewN | apply Kd.V_drew)); exact (Kd.V_mono (Kd.V_far (p := ⟨gb212, 1, none⟩) (Kd.V_far (p := ⟨gb212, 0, none⟩) (Kd.V_mono HO200.out (fun k_ hk => (⟨hk, hk.2⟩ : _ ∧ k_ ≠ gb212))) (fun _ hk => hk.2) (.int .i64 t206)) (fun _ hk => hk.2) (.slice Ao34 t207.length co34)) (fun _ h_ => h_.1)))); (case side2 => exact (Kd.V_reads' HO200.out).2.1); (case side3 => refine (Kd.V_reads' (e := 39) (base := w.heap.size) (ok := fun k_ => ((k_ ≠ gb195 ∧ k_ ≠ gb203) ∧ k_ ≠ gb212)) (n := t207.length) (c := co34) ?_).2.2; exact (by (with_reducible repeat (first | apply Kd.V_alloc | apply Kd.V_drewN | apply Kd.V_drew)); exact (Kd.V_mono (Kd.V_far (p := ⟨gb212, 1, none⟩) (Kd.V_far (p := ⟨gb212, 0, none⟩) (Kd.V_mono HO209.out (fun k_ hk => (⟨hk, hk.2⟩ : _ ∧ k_ ≠ gb212))) (fun _ hk => hk.2) (.int .i64 t206)) (fun _ hk => hk.2) (.slice Ao34 t207.length co34)) (fun _ h_ => h_.1)))); (case side4 => exact (Kd.V_reads' HO209.out).2.1); rintro e w55 ⟨rfl, hb⟩; have n0_ := a5_ (Kd.V_below (by (with_reducible repeat (first | apply Kd.V_alloc | apply Kd.V_drewN | apply Kd.V_drew)); exact (Kd.V_mono (Kd.V_far (p := ⟨gb212, 1, none⟩) (Kd.V_far (p := ⟨gb212, 0, none⟩) (Kd.V_mono HO200.out (fun k_ hk => (⟨hk, hk.2⟩ : _ ∧ k_ ≠ gb212))) (fun _ hk => hk.2) (.int .i64 t206)) (fun _ hk => hk.2) (.slice Ao34 t207.length co34)) (fun _ h_ => h_.1))) hb); have n1_ := a5_ (Kd.V_below (by (with_reducible repeat (first | apply Kd.V_alloc | apply Kd.V_drewN | apply Kd.V_drew)); exact (Kd.V_mono (Kd.V_far (p := ⟨gb212, 1, none⟩) (Kd.V_far (p := ⟨gb212, 0, none⟩) (Kd.V_mono HO209.out (fun k_ hk => (⟨hk, hk.2⟩ : _ ∧ k_ ≠ gb212))) (fun _ hk => hk.2) (.int .i64 t206)) (fun _ hk => hk.2) (.slice Ao34 t207.length co34)) (fun _ h_ => h_.1))) hb); have n2_ := a5_ (blk_below (g := gb195) (o := .cells #[.int .i64 a0_0, .slice A0_1 l0_1.length c0_1] 24 (0, 0)) (by (with_reducible repeat (first | refine blk_drewN ?_ _ | refine blk_drew ?_ | refine blk_alloc ?_ _)); refine blk_far ?_ NB195_212.out _; (with_reducible repeat (first | refine blk_drewN ?_ _ | refine blk_drew ?_ | refine blk_alloc ?_ _)); refine blk_far ?_ NB195_212.out _; (with_reducible repeat (first | refine blk_drewN ?_ _ | refine blk_drew ?_ | refine blk_alloc ?_ _)); exact BK195.out) hb); have n3_ := a5_ (blk_below (g := gb203) (o := .cells #[.int .i64 t197, .slice Ao20 t198.length co20] 24 (0, 0)) (by (with_reducible repeat (first | refine blk_drewN ?_ _ | refine blk_drew ?_ | refine blk_alloc ?_ _)); refine blk_far ?_ NB203_212.out _; (with_reducible repeat (first | refine blk_drewN ?_ _ | refine blk_drew ?_ | refine blk_alloc ?_ _)); refine blk_far ?_ NB203_212.out _; (with_reducible repeat (first | refine blk_drewN ?_ _ | refine blk_drew ?_ | refine blk_alloc ?_ _)); exact BK203.out) hb); have n4_ := a5_ (blk_below (g := gb212) (o := .cells #[.int .i64 t206, .slice Ao34 t207.length co34] 24 (0, 0)) (by (with_reducible repeat (first | refine blk_drewN ?_ _ | refine blk_drew ?_ | refine blk_alloc ?_ _)); refine blk_put (cs := #[.int .i64 t206, .slice none 0 0]) ?_ 1 _ rfl; (with_reducible repeat (first | refine blk_drewN ?_ _ | refine blk_drew ?_ | refine blk_alloc ?_ _)); refine blk_put (cs := #[.int .i64 0, .slice none 0 0]) ?_ 0 _ rfl; (with_reducible repeat (first | refine blk_drewN ?_ _ | refine blk_drew ?_ | refine blk_alloc ?_ _)); exact BK212.out) hb); have n5_ := a5_ (below_step (by repeat (first | (with_reducible first | exact HB.out | apply below_alloc | apply q5_ | apply below_drew1 | refine below_set ?_ GE195.out | refine below_set ?_ GE203.out | refine below_set ?_ GE212.out) | exact HB.out)) hb); clear HO200; clear HO209; clear BK195; clear BK203; clear BK212; clear HB; have HO200 := n0_; have HO209 := n1_; have BK195 := n2_; have BK203 := n3_; have BK212 := n4_; have HB := n5_; clear n0_ n1_ n2_ n3_ n4_ n5_; (try clear hb); (try clear hb2); (try clear hk); (try clear hi)))
                          go_meet
                          case rel => exact ⟨_, (true), (by first | rfl | (simp; done) | (simp [*]; done)), H', ⟨by have := HJ5.out; first | omega | exact Nat.le_refl _⟩, ⟨by (with_reducible repeat (first | apply Kd.V_alloc | apply Kd.V_drewN | apply Kd.V_drew)); exact Kd.V_mono HO200.out (fun _ hk => ⟨hk.1.1, ⟨hk.1.2, hk.2⟩⟩)⟩, ⟨by (with_reducible repeat (first | apply Kd.V_alloc | apply Kd.V_drewN | apply Kd.V_drew)); exact Kd.V_mono HO209.out (fun _ hk => ⟨hk.1.1, ⟨hk.1.2, hk.2⟩⟩)⟩, ⟨by (with_reducible repeat (first | refine blk_drewN ?_ _ | refine blk_drew ?_ | refine blk_alloc ?_ _)); exact BK195.out⟩, ⟨by (with_reducible repeat (first | refine blk_drewN ?_ _ | refine blk_drew ?_ | refine blk_alloc ?_ _)); exact BK203.out⟩, ⟨by (with_reducible repeat (first | refine blk_drewN ?_ _ | refine blk_drew ?_ | refine blk_alloc ?_ _)); exact BK212.out⟩, ⟨by repeat (first | (with_reducible first | exact HB.out | apply below_alloc | apply q5_ | apply below_drew1 | refine below_set ?_ GE195.out | refine below_set ?_ GE203.out | refine below_set ?_ GE212.out) | exact HB.out)⟩⟩
                      · rw [if_neg c38] at H
                        have c38b0 : (t210 == t201) = false := beq_eq_false_iff_ne.mpr c38
                        have c38b1 : (t210 != t201) = true := bne_iff_ne.mpr c38
                        have H' := a5_ H
                        clear H
                        go_wp2
                        go_meet
                        case rel => exact ⟨_, (true), (by first | rfl | (simp; done) | (simp [*]; done)), H', ⟨by have := HJ5.out; first | omega | exact Nat.le_refl _⟩, ⟨by (with_reducible repeat (first | apply Kd.V_alloc | apply Kd.V_drewN | apply Kd.V_drew)); exact Kd.V_mono (Kd.V_far (p := ⟨gb212, 1, none⟩) (Kd.V_far (p := ⟨gb212, 0, none⟩) (Kd.V_mono HO200.out (fun k_ hk => (⟨hk, hk.2⟩ : _ ∧ k_ ≠ gb212))) (fun _ hk => hk.2) (.int .i64 t206)) (fun _ hk => hk.2) (.slice Ao34 t207.length co34)) (fun _ hk => ⟨hk.1.1.1, ⟨hk.1.1.2, hk.1.2⟩⟩)⟩, ⟨by (with_reducible repeat (first | apply Kd.V_alloc | apply Kd.V_drewN | apply Kd.V_drew)); exact Kd.V_mono (Kd.V_far (p := ⟨gb212, 1, none⟩) (Kd.V_far (p := ⟨gb212, 0, none⟩) (Kd.V_mono HO209.out (fun k_ hk => (⟨hk, hk.2⟩ : _ ∧ k_ ≠ gb212))) (fun _ hk => hk.2) (.int .i64 t206)) (fun _ hk => hk.2) (.slice Ao34 t207.length co34)) (fun _ hk => ⟨hk.1.1.1, ⟨hk.1.1.2, hk.1.2⟩⟩)⟩, ⟨by (with_reducible repeat (first | refine blk_drewN ?_ _ | refine blk_drew ?_ | refine blk_alloc ?_ _)); refine blk_far ?_ NB195_212.out _; (with_reducible repeat (first | refine blk_drewN ?_ _ | refine blk_drew ?_ | refine blk_alloc ?_ _)); refine blk_far ?_ NB195_212.out _; (with_reducible repeat (first | refine blk_drewN ?_ _ | refine blk_drew ?_ | refine blk_alloc ?_ _)); exact BK195.out⟩, ⟨by (with_reducible repeat (first | refine blk_drewN ?_ _ | refine blk_drew ?_ | refine blk_alloc ?_ _)); refine blk_far ?_ NB203_212.out _; (with_reducible repeat (first | refine blk_drewN ?_ _ | refine blk_drew ?_ | refine blk_alloc ?_ _)); refine blk_far ?_ NB203_212.out _; (with_reducible repeat (first | refine blk_drewN ?_ _ | refine blk_drew ?_ | refine blk_alloc ?_ _)); exact BK203.out⟩, ⟨by (with_reducible repeat (first | refine blk_drewN ?_ _ | refine blk_drew ?_ | refine blk_alloc ?_ _)); refine blk_put (cs := #[.int .i64 t206, .slice none 0 0]) ?_ 1 _ rfl; (with_reducible repeat (first | refine blk_drewN ?_ _ | refine blk_drew ?_ | refine blk_alloc ?_ _)); refine blk_put (cs := #[.int .i64 0, .slice none 0 0]) ?_ 0 _ rfl; (with_reducible repeat (first | refine blk_drewN ?_ _ | refine blk_drew ?_ | refine blk_alloc ?_ _)); exact BK212.out⟩, ⟨by repeat (first | (with_reducible first | exact HB.out | apply below_alloc | apply q5_ | apply below_drew1 | refine below_set ?_ GE195.out | refine below_set ?_ GE203.out | refine below_set ?_ GE212.out) | exact HB.out)⟩⟩
                    · rw [if_neg c37] at H
                      have c37b0 : (t211 == 0) = false := beq_eq_false_iff_ne.mpr c37
                      have c37b1 : (t211 != 0) = true := bne_iff_ne.mpr c37
                      have H' := a5_ H
                      clear H
                      go_wp2
                      go_meet
                      case rel => exact ⟨_, (true), (by first | rfl | (simp; done) | (simp [*]; done)), H', ⟨by have := HJ5.out; first | omega | exact Nat.le_refl _⟩, ⟨by (with_reducible repeat (first | apply Kd.V_alloc | apply Kd.V_drewN | apply Kd.V_drew)); exact Kd.V_mono (Kd.V_far (p := ⟨gb212, 1, none⟩) (Kd.V_far (p := ⟨gb212, 0, none⟩) (Kd.V_mono HO200.out (fun k_ hk => (⟨hk, hk.2⟩ : _ ∧ k_ ≠ gb212))) (fun _ hk => hk.2) (.int .i64 t206)) (fun _ hk => hk.2) (.slice Ao34 t207.length co34)) (fun _ hk => ⟨hk.1.1.1, ⟨hk.1.1.2, hk.1.2⟩⟩)⟩, ⟨by (with_reducible repeat (first | apply Kd.V_alloc | apply Kd.V_drewN | apply Kd.V_drew)); exact Kd.V_mono (Kd.V_far (p := ⟨gb212, 1, none⟩) (Kd.V_far (p := ⟨gb212, 0, none⟩) (Kd.V_mono HO209.out (fun k_ hk => (⟨hk, hk.2⟩ : _ ∧ k_ ≠ gb212))) (fun _ hk => hk.2) (.int .i64 t206)) (fun _ hk => hk.2) (.slice Ao34 t207.length co34)) (fun _ hk => ⟨hk.1.1.1, ⟨hk.1.1.2, hk.1.2⟩⟩)⟩, ⟨by (with_reducible repeat (first | refine blk_drewN ?_ _ | refine blk_drew ?_ | refine blk_alloc ?_ _)); refine blk_far ?_ NB195_212.out _; (with_reducible repeat (first | refine blk_drewN ?_ _ | refine blk_drew ?_ | refine blk_alloc ?_ _)); refine blk_far ?_ NB195_212.out _; (with_reducible repeat (first | refine blk_drewN ?_ _ | refine blk_drew ?_ | refine blk_alloc ?_ _)); exact BK195.out⟩, ⟨by (with_reducible repeat (first | refine blk_drewN ?_ _ | refine blk_drew ?_ | refine blk_alloc ?_ _)); refine blk_far ?_ NB203_212.out _; (with_reducible repeat (first | refine blk_drewN ?_ _ | refine blk_drew ?_ | refine blk_alloc ?_ _)); refine blk_far ?_ NB203_212.out _; (with_reducible repeat (first | refine blk_drewN ?_ _ | refine blk_drew ?_ | refine blk_alloc ?_ _)); exact BK203.out⟩, ⟨by (with_reducible repeat (first | refine blk_drewN ?_ _ | refine blk_drew ?_ | refine blk_alloc ?_ _)); refine blk_put (cs := #[.int .i64 t206, .slice none 0 0]) ?_ 1 _ rfl; (with_reducible repeat (first | refine blk_drewN ?_ _ | refine blk_drew ?_ | refine blk_alloc ?_ _)); refine blk_put (cs := #[.int .i64 0, .slice none 0 0]) ?_ 0 _ rfl; (with_reducible repeat (first | refine blk_drewN ?_ _ | refine blk_drew ?_ | refine blk_alloc ?_ _)); exact BK212.out⟩, ⟨by repeat (first | (with_reducible first | exact HB.out | apply below_alloc | apply q5_ | apply below_drew1 | refine below_set ?_ GE195.out | refine below_set ?_ GE203.out | refine below_set ?_ GE212.out) | exact HB.out)⟩⟩
                  · rw [if_neg c36] at H
                    have c36b0 : (t204.toList == a1.toList) = false := beq_eq_false_iff_ne.mpr c36
                    have c36b1 : (t204.toList != a1.toList) = true := bne_iff_ne.mpr c36
                    (first | rw [c36b0] | (simp only [i64_w, i32_w]; rw [c36b0]) | skip)
                    have H' := a5_ H
                    clear H
                    go_wp2
                    go_meet
                    case rel => exact ⟨_, (true), (by first | rfl | (simp; done) | (simp [*]; done)), H', ⟨by have := HJ5.out; first | omega | exact Nat.le_refl _⟩, ⟨by (with_reducible repeat (first | apply Kd.V_alloc | apply Kd.V_drewN | apply Kd.V_drew)); exact Kd.V_mono (Kd.V_far (p := ⟨gb212, 1, none⟩) (Kd.V_far (p := ⟨gb212, 0, none⟩) (Kd.V_mono HO200.out (fun k_ hk => (⟨hk, hk.2⟩ : _ ∧ k_ ≠ gb212))) (fun _ hk => hk.2) (.int .i64 t206)) (fun _ hk => hk.2) (.slice Ao34 t207.length co34)) (fun _ hk => ⟨hk.1.1.1, ⟨hk.1.1.2, hk.1.2⟩⟩)⟩, ⟨by (with_reducible repeat (first | apply Kd.V_alloc | apply Kd.V_drewN | apply Kd.V_drew)); exact Kd.V_mono (Kd.V_far (p := ⟨gb212, 1, none⟩) (Kd.V_far (p := ⟨gb212, 0, none⟩) (Kd.V_mono HO209.out (fun k_ hk => (⟨hk, hk.2⟩ : _ ∧ k_ ≠ gb212))) (fun _ hk => hk.2) (.int .i64 t206)) (fun _ hk => hk.2) (.slice Ao34 t207.length co34)) (fun _ hk => ⟨hk.1.1.1, ⟨hk.1.1.2, hk.1.2⟩⟩)⟩, ⟨by (with_reducible repeat (first | refine blk_drewN ?_ _ | refine blk_drew ?_ | refine blk_alloc ?_ _)); refine blk_far ?_ NB195_212.out _; (with_reducible repeat (first | refine blk_drewN ?_ _ | refine blk_drew ?_ | refine blk_alloc ?_ _)); refine blk_far ?_ NB195_212.out _; (with_reducible repeat (first | refine blk_drewN ?_ _ | refine blk_drew ?_ | refine blk_alloc ?_ _)); exact BK195.out⟩, ⟨by (with_reducible repeat (first | refine blk_drewN ?_ _ | refine blk_drew ?_ | refine blk_alloc ?_ _)); refine blk_far ?_ NB203_212.out _; (with_reducible repeat (first | refine blk_drewN ?_ _ | refine blk_drew ?_ | refine blk_alloc ?_ _)); refine blk_far ?_ NB203_212.out _; (with_reducible repeat (first | refine blk_drewN ?_ _ | refine blk_drew ?_ | refine blk_alloc ?_ _)); exact BK203.out⟩, ⟨by (with_reducible repeat (first | refine blk_drewN ?_ _ | refine blk_drew ?_ | refine blk_alloc ?_ _)); refine blk_put (cs := #[.int .i64 t206, .slice none 0 0]) ?_ 1 _ rfl; (with_reducible repeat (first | refine blk_drewN ?_ _ | refine blk_drew ?_ | refine blk_alloc ?_ _)); refine blk_put (cs := #[.int .i64 0, .slice none 0 0]) ?_ 0 _ rfl; (with_reducible repeat (first | refine blk_drewN ?_ _ | refine blk_drew ?_ | refine blk_alloc ?_ _)); exact BK212.out⟩, ⟨by repeat (first | (with_reducible first | exact HB.out | apply below_alloc | apply q5_ | apply below_drew1 | refine below_set ?_ GE195.out | refine below_set ?_ GE203.out | refine below_set ?_ GE212.out) | exact HB.out)⟩⟩
                · replace c35 := Bool.eq_false_iff.mpr c35
                  subst c35
                  have H1 : (codesearchlaw24_BlobShares.j1 kj5 a1 l2 t201 true a0_0 l0_1 t197 t198) = some r := by rw [if_neg (show ¬ (false = true) by decide)] at H; exact H
                  clear H
                  have H := H1
                  clear H1
                  have H' := a5_ H
                  clear H
                  go_wp2
                  go_meet
                  case rel => exact ⟨_, (true), (by first | rfl | (simp; done) | (simp [*]; done)), H', ⟨by have := HJ5.out; first | omega | exact Nat.le_refl _⟩, ⟨by (with_reducible repeat (first | apply Kd.V_alloc | apply Kd.V_drewN | apply Kd.V_drew)); exact Kd.V_mono (Kd.V_far (p := ⟨gb212, 1, none⟩) (Kd.V_far (p := ⟨gb212, 0, none⟩) (Kd.V_mono HO200.out (fun k_ hk => (⟨hk, hk.2⟩ : _ ∧ k_ ≠ gb212))) (fun _ hk => hk.2) (.int .i64 t206)) (fun _ hk => hk.2) (.slice Ao34 t207.length co34)) (fun _ hk => ⟨hk.1.1.1, ⟨hk.1.1.2, hk.1.2⟩⟩)⟩, ⟨by (with_reducible repeat (first | apply Kd.V_alloc | apply Kd.V_drewN | apply Kd.V_drew)); exact Kd.V_mono (Kd.V_far (p := ⟨gb212, 1, none⟩) (Kd.V_far (p := ⟨gb212, 0, none⟩) (Kd.V_mono HO209.out (fun k_ hk => (⟨hk, hk.2⟩ : _ ∧ k_ ≠ gb212))) (fun _ hk => hk.2) (.int .i64 t206)) (fun _ hk => hk.2) (.slice Ao34 t207.length co34)) (fun _ hk => ⟨hk.1.1.1, ⟨hk.1.1.2, hk.1.2⟩⟩)⟩, ⟨by (with_reducible repeat (first | refine blk_drewN ?_ _ | refine blk_drew ?_ | refine blk_alloc ?_ _)); refine blk_far ?_ NB195_212.out _; (with_reducible repeat (first | refine blk_drewN ?_ _ | refine blk_drew ?_ | refine blk_alloc ?_ _)); refine blk_far ?_ NB195_212.out _; (with_reducible repeat (first | refine blk_drewN ?_ _ | refine blk_drew ?_ | refine blk_alloc ?_ _)); exact BK195.out⟩, ⟨by (with_reducible repeat (first | refine blk_drewN ?_ _ | refine blk_drew ?_ | refine blk_alloc ?_ _)); refine blk_far ?_ NB203_212.out _; (with_reducible repeat (first | refine blk_drewN ?_ _ | refine blk_drew ?_ | refine blk_alloc ?_ _)); refine blk_far ?_ NB203_212.out _; (with_reducible repeat (first | refine blk_drewN ?_ _ | refine blk_drew ?_ | refine blk_alloc ?_ _)); exact BK203.out⟩, ⟨by (with_reducible repeat (first | refine blk_drewN ?_ _ | refine blk_drew ?_ | refine blk_alloc ?_ _)); refine blk_put (cs := #[.int .i64 t206, .slice none 0 0]) ?_ 1 _ rfl; (with_reducible repeat (first | refine blk_drewN ?_ _ | refine blk_drew ?_ | refine blk_alloc ?_ _)); refine blk_put (cs := #[.int .i64 0, .slice none 0 0]) ?_ 0 _ rfl; (with_reducible repeat (first | refine blk_drewN ?_ _ | refine blk_drew ?_ | refine blk_alloc ?_ _)); exact BK212.out⟩, ⟨by repeat (first | (with_reducible first | exact HB.out | apply below_alloc | apply q5_ | apply below_drew1 | refine below_set ?_ GE195.out | refine below_set ?_ GE203.out | refine below_set ?_ GE212.out) | exact HB.out)⟩⟩
              case rest => as_aux_lemma =>
                clear HC24
                try clear c1
                try clear c2
                try clear p2
                try clear c3
                try clear c4
                try clear c5
                try clear c6
                try clear c7
                try clear c9
                try clear c9b0
                try clear c9b1
                try clear c12
                try clear c15
                try clear c18
                try clear c21
                try clear c21b0
                try clear c21b1
                try clear c25
                try clear c31
                try clear c32
                try clear c35
                try clear c36
                try clear c36b0
                try clear c36b1
                try clear c37
                try clear c37b0
                try clear c37b1
                try clear c38
                try clear c38b0
                try clear c38b1
                try clear c40
                try clear c42
                try clear c43
                try clear c45
                try clear c50
                try clear c51
                try clear c53
                try clear hcz10_0
                try clear hcz10_1
                try clear hcz11_0
                try clear hcz11_1
                try clear hcz15_0
                try clear hcz15_1
                try clear hcz19_0
                try clear hcz19_1
                try clear hcz26_0
                try clear hcz26_1
                try clear hcz28_0
                try clear hcz28_1
                try clear hcz33_0
                try clear hcz33_1
                try clear hcz44_0
                try clear hcz44_1
                try clear hcz46_0
                try clear hcz46_1
                try clear hcz48_0
                try clear hcz48_1
                try clear hcz52_0
                try clear hcz52_1
                try clear hcz54_0
                try clear hcz54_1
                try clear hfz10_0
                try clear hfz10_1
                try clear hfz11_0
                try clear hfz11_1
                try clear hfz15_0
                try clear hfz15_1
                try clear hfz19_0
                try clear hfz19_1
                try clear hfz26_0
                try clear hfz26_1
                try clear hfz28_0
                try clear hfz28_1
                try clear hfz33_0
                try clear hfz33_1
                try clear hfz44_0
                try clear hfz44_1
                try clear hfz46_0
                try clear hfz46_1
                try clear hfz48_0
                try clear hfz48_1
                try clear hfz52_0
                try clear hfz52_1
                try clear hfz54_0
                try clear hfz54_1
                try clear p2
                obtain ⟨kq, x85_23, rfl, HA, HJ23, HO_204001, HO_213001, BK195, BK203, BK212, HB⟩ := hcut
                cases kq with
                | zero => exact absurd HA.out (by simp [codesearchlaw24_BlobShares.j1])
                | succ kj23 =>
                  have H := HA.out
                  clear HA
                  simp only [codesearchlaw24_BlobShares.j1] at H
                  by_cases c56 : x85_23 = true
                  · subst c56
                    have H1 : (some false) = some r := by rw [if_pos rfl] at H; exact H
                    clear H
                    have H := H1
                    clear H1
                    obtain rfl := Option.some.inj H
                    go_wp2
                    go_ret
                    exact ⟨by first | rfl | (simp [errW_none, errW_some] <;> rfl) | (simp [*, errW_none, errW_some] <;> rfl), by repeat (first | (with_reducible first | exact HB.out | apply below_alloc | apply q5_ | apply below_drew1 | refine below_set ?_ GE195.out | refine below_set ?_ GE203.out | refine below_set ?_ GE212.out) | exact HB.out)⟩
                  · replace c56 := Bool.eq_false_iff.mpr c56
                    subst c56
                    have H1 : (codesearchlaw24_BlobShares.l0 kj23 a1 l2 t201 0 a0_0 l0_1 t197 t198) = some r := by rw [if_neg (show ¬ (false = true) by decide)] at H; exact H
                    clear H
                    have H := H1
                    clear H1
                    have H' := a5_ H
                    clear H
                    go_wp2
                    go_loopg [15] kj23 (fun kq v15 w' => ∃ (x15_3 : Int), v15 = .int .i64 x15_3 ∧ Aside0 (codesearchlaw24_BlobShares.l0 kq a1 l2 t201 x15_3 a0_0 l0_1 t197 t198 = some r) ∧ Aside0 (kq ≤ kj23) ∧ Aside0 (Kd.V k39 39 w' w.heap.size (fun k_ => k_ ≠ gb195 ∧ k_ ≠ gb203 ∧ k_ ≠ gb212) (.slice Ao20 t198.length co20) t198) ∧ Aside0 (Kd.V k39 39 w' w.heap.size (fun k_ => k_ ≠ gb195 ∧ k_ ≠ gb203 ∧ k_ ≠ gb212) (.slice Ao34 t207.length co34) t207) ∧ Aside0 (w'.heap[gb195]? = some (.cells #[.int .i64 a0_0, (.slice A0_1 l0_1.length c0_1)] 24 (0, 0))) ∧ Aside0 (w'.heap[gb203]? = some (.cells #[.int .i64 t197, (.slice Ao20 t198.length co20)] 24 (0, 0))) ∧ Aside0 (w'.heap[gb212]? = some (.cells #[.int .i64 t206, (.slice Ao34 t207.length co34)] 24 (0, 0))) ∧ Aside0 (Below w.heap.size w w'))
                    case atStart => exact ⟨(0), (by first | rfl | (simp; done) | (simp [*]; done)), H', ⟨Nat.le_refl _⟩, ⟨by (with_reducible repeat (first | apply Kd.V_alloc | apply Kd.V_drewN | apply Kd.V_drew)); exact HO_204001.out⟩, ⟨by (with_reducible repeat (first | apply Kd.V_alloc | apply Kd.V_drewN | apply Kd.V_drew)); exact HO_213001.out⟩, ⟨by (with_reducible repeat (first | refine blk_drewN ?_ _ | refine blk_drew ?_ | refine blk_alloc ?_ _)); exact BK195.out⟩, ⟨by (with_reducible repeat (first | refine blk_drewN ?_ _ | refine blk_drew ?_ | refine blk_alloc ?_ _)); exact BK203.out⟩, ⟨by (with_reducible repeat (first | refine blk_drewN ?_ _ | refine blk_drew ?_ | refine blk_alloc ?_ _)); exact BK212.out⟩, ⟨by repeat (first | (with_reducible first | exact HB.out | apply below_alloc | apply q5_ | apply below_drew1 | refine below_set ?_ GE195.out | refine below_set ?_ GE203.out | refine below_set ?_ GE212.out) | exact HB.out)⟩⟩
                    case round => as_aux_lemma =>
                      clear H'
                      try clear c1
                      try clear c2
                      try clear p2
                      try clear c3
                      try clear c4
                      try clear c5
                      try clear c6
                      try clear c7
                      try clear c9
                      try clear c9b0
                      try clear c9b1
                      try clear c12
                      try clear c15
                      try clear c18
                      try clear c21
                      try clear c21b0
                      try clear c21b1
                      try clear c25
                      try clear c31
                      try clear c32
                      try clear c35
                      try clear c36
                      try clear c36b0
                      try clear c36b1
                      try clear c37
                      try clear c37b0
                      try clear c37b1
                      try clear c38
                      try clear c38b0
                      try clear c38b1
                      try clear c40
                      try clear c42
                      try clear c43
                      try clear c45
                      try clear c50
                      try clear c51
                      try clear c53
                      try clear c56
                      try clear hcz10_0
                      try clear hcz10_1
                      try clear hcz11_0
                      try clear hcz11_1
                      try clear hcz15_0
                      try clear hcz15_1
                      try clear hcz19_0
                      try clear hcz19_1
                      try clear hcz26_0
                      try clear hcz26_1
                      try clear hcz28_0
                      try clear hcz28_1
                      try clear hcz33_0
                      try clear hcz33_1
                      try clear hcz44_0
                      try clear hcz44_1
                      try clear hcz46_0
                      try clear hcz46_1
                      try clear hcz48_0
                      try clear hcz48_1
                      try clear hcz52_0
                      try clear hcz52_1
                      try clear hcz54_0
                      try clear hcz54_1
                      try clear hfz10_0
                      try clear hfz10_1
                      try clear hfz11_0
                      try clear hfz11_1
                      try clear hfz15_0
                      try clear hfz15_1
                      try clear hfz19_0
                      try clear hfz19_1
                      try clear hfz26_0
                      try clear hfz26_1
                      try clear hfz28_0
                      try clear hfz28_1
                      try clear hfz33_0
                      try clear hfz33_1
                      try clear hfz44_0
                      try clear hfz44_1
                      try clear hfz46_0
                      try clear hfz46_1
                      try clear hfz48_0
                      try clear hfz48_1
                      try clear hfz52_0
                      try clear hfz52_1
                      try clear hfz54_0
                      try clear hfz54_1
                      try clear p2
                      obtain ⟨x15_3, rfl, HA, HK3, HO_204001, HO_213001, BK195, BK203, BK212, HB⟩ := hrel
                      cases gk with
                      | zero => exact absurd HA.out (by simp [codesearchlaw24_BlobShares.l0])
                      | succ k3 =>
                        have H := HA.out
                        clear HA
                        simp only [codesearchlaw24_BlobShares.l0] at H
                        by_cases c57 : x15_3 < (l0_1.length : Int)
                        · rw [if_pos c57] at H
                          have c57b0 : decide (x15_3 < (l0_1.length : Int)) = true := decide_eq_true c57
                          clear c57
                          by_cases c58 : 0 ≤ x15_3
                          · rw [if_pos c58] at H
                            have c58b0 : decide (0 ≤ x15_3) = true := decide_eq_true c58
                            clear c58
                            replace H := Option.bind_eq_some_iff.mp H
                            obtain ⟨⟨t216, t217⟩, A590, H⟩ := H
                            replace H : (if t217 = true then (if t216.toList = ((rd_T39 l0_1 x15_3).f1).toList then (codesearchlaw24_BlobShares.l0 k3 a1 l2 t201 (wrap64 (x15_3 + 1)) a0_0 l0_1 t197 t198) else (some false)) else (some false)) = some r := H
                            have A59 := a5_ A590
                            clear A590
                            by_cases c60 : t217 = true
                            · subst c60
                              have H1 : (if t216.toList = ((rd_T39 l0_1 x15_3).f1).toList then (codesearchlaw24_BlobShares.l0 k3 a1 l2 t201 (wrap64 (x15_3 + 1)) a0_0 l0_1 t197 t198) else (some false)) = some r := by rw [if_pos rfl] at H; exact H
                              clear H
                              have H := H1
                              clear H1
                              by_cases c61 : t216.toList = ((rd_T39 l0_1 x15_3).f1).toList
                              · rw [if_pos c61] at H
                                have c61b0 : (t216.toList == ((rd_T39 l0_1 x15_3).f1).toList) = true := beq_iff_eq.mpr c61
                                have c61b1 : (t216.toList != ((rd_T39 l0_1 x15_3).f1).toList) = false := bne_eq_false_iff_eq.mpr c61
                                clear c61
                                have H' := a5_ H
                                clear H
                                have hnb62 := NB195_203.out
                                have hnc62 := NB203_195.out
                                have hnb63 := NB195_212.out
                                have hnc63 := NB212_195.out
                                have hcz64_0 : wr.cell? ⟨gb195, 0, none⟩ = some (.int .i64 a0_0) := (blk_cell BK195.out 0).trans rfl
                                have hcz64_1 : wr.cell? ⟨gb195, 1, none⟩ = some (.slice A0_1 l0_1.length c0_1) := (blk_cell BK195.out 1).trans rfl
                                have hfz64_0 := blk_frozen BK195.out 0
                                have hfz64_1 := blk_frozen BK195.out 1
                                try go_wp2
                                have n0_ := a5_ (Kd.V_drew HO_204001.out)
                                have n1_ := a5_ (Kd.V_drew HO_213001.out)
                                have n2_ := a5_ (blk_drew BK195.out)
                                have n3_ := a5_ (blk_drew BK203.out)
                                have n4_ := a5_ (blk_drew BK212.out)
                                have n5_ := a5_ (below_drew1 HB.out)
                                clear HO_204001
                                clear HO_213001
                                clear BK195
                                clear BK203
                                clear BK212
                                clear HB
                                have HO_204001 := n0_
                                have HO_213001 := n1_
                                have BK195 := n2_
                                have BK203 := n3_
                                have BK212 := n4_
                                have HB := n5_
                                clear n0_ n1_ n2_ n3_ n4_ n5_
                                have p215 : 0 ≤ (x15_3 : Int) := of_decide_eq_true (by first | (with_reducible assumption) | assumption)
                                have q215 : x15_3 < (l0_1.length : Int) := of_decide_eq_true (by first | (with_reducible assumption) | assumption)
                                obtain ⟨ad215, e215, hx215_0, hx215_1⟩ := at_T39 HR0_1.out x15_3 p215 q215
                                have hw215_1 := hx215_1
                                have hw215_0 := hx215_0
                                cases e215
                                replace hx215_0 := (HB.out.cell (World.block_lt_of_cell? w _ hx215_0)).trans hx215_0
                                replace hx215_1 := (HB.out.cell (World.block_lt_of_cell? w _ hx215_1)).trans hx215_1
                                replace p215 := eq_true p215
                                replace q215 := eq_true q215
                                refine start_ (n := 13) (S := fun w' => w'.cell? ⟨gb203, 0, none⟩ = some (.int .i64 t197) ∧ w'.cell? ⟨gb203, 1, none⟩ = some (.slice Ao20 t198.length co20) ∧ w'.cell? ⟨gb195, 0, none⟩ = some (.int .i64 a0_0) ∧ w'.cell? ⟨gb195, 1, none⟩ = some (.slice (some ad215) l0_1.length c0_1) ∧ w'.cell? (ad215.add ((x15_3).toNat * 2)) = some (.int .i64 ((rd_T39 l0_1 x15_3).f0)) ∧ w'.cell? ⟨(ad215.add ((x15_3).toNat * 2)).block, (ad215.add ((x15_3).toNat * 2)).off + 1, none⟩ = some (.string ((rd_T39 l0_1 x15_3).f1))) (ds := []) #[false, false, false, false, false, false, false, false, false, false, false, false, false] (by kernel_rfl) rfl rfl ⟨(blk_cell BK203.out 0).trans rfl, (blk_cell BK203.out 1).trans rfl, (blk_cell BK195.out 0).trans rfl, (blk_cell BK195.out 1).trans rfl, ((HB.out.cell (World.block_lt_of_cell? w _ hw215_0)).trans hw215_0), ((HB.out.cell (World.block_lt_of_cell? w _ hw215_1)).trans hw215_1)⟩ (fun hHeld => ?_); refine with_tabW codesearchlaw24_BlobShares.tab14 codesearchlaw24_BlobShares.bits14 (fun HT_ HW_ => ?_)
                                generalize wr.drew = w65 at HO_204001 HO_213001 BK195 BK203 BK212 HB hx215_0 hx215_1 hHeld ⊢
                                refine pure_ (i := 1) (N := some 95) (v := ?_) (a' := ?_) #[false, true, false, false, false, false, false, false, false, false, false, false, false] rfl rfl (any_of HT_.out (by kernel_rfl)) (fun _ _ _ h => h) (Or.inl ⟨by rfl, ?_⟩) ?_ ?_
                                rotate_left
                                · intro w'
                                  go_simp
                                  with_reducible rfl
                                rotate_left
                                · simp only [Act.put, sT5_, sZ5_, sS5_, i64_w, i32_w]
                                  rfl
                                refine pure_ (i := 3) (N := some 97) (v := ?_) (a' := ?_) #[false, true, false, true, false, false, false, false, false, false, false, false, false] rfl rfl (any_of HT_.out (by kernel_rfl)) (fun _ _ _ h => h) (Or.inl ⟨by rfl, ?_⟩) ?_ ?_
                                rotate_left
                                · intro w'
                                  go_simp
                                  with_reducible rfl
                                rotate_left
                                · simp only [Act.put, sT5_, sZ5_, sS5_, i64_w, i32_w]
                                  rfl
                                refine take_ (i := 0) (N := some 94) (v := ?_) (a' := ?_) #[true, true, false, true, false, false, false, false, false, false, false, false, false] rfl rfl (take_ofW HT_.out HW_.out (by kernel_rfl)) (fun _ _ _ h => h) (Or.inl ⟨by rfl, ?_⟩) hHeld ?_ ?_
                                rotate_left
                                · rintro w' ⟨s0, s1, s2, s3, s4, s5⟩
                                  go_simp
                                  with_reducible rfl
                                rotate_left
                                · simp only [Act.put, sT5_, sZ5_, sS5_, i64_w, i32_w]
                                  rfl
                                refine take_ (i := 2) (N := some 96) (v := ?_) (a' := ?_) #[true, true, true, true, false, false, false, false, false, false, false, false, false] rfl rfl (take_ofW HT_.out HW_.out (by kernel_rfl)) (fun _ _ _ h => h) (Or.inl ⟨by rfl, ?_⟩) hHeld ?_ ?_
                                rotate_left
                                · rintro w' ⟨s0, s1, s2, s3, s4, s5⟩
                                  go_simp
                                  with_reducible rfl
                                rotate_left
                                · simp only [Act.put, sT5_, sZ5_, sS5_, i64_w, i32_w]
                                  rfl
                                refine pure_ (i := 4) (N := some 98) (v := ?_) (a' := ?_) #[true, true, true, true, true, false, false, false, false, false, false, false, false] rfl rfl (any_of HT_.out (by kernel_rfl)) (fun _ _ _ h => h) (Or.inl ⟨by rfl, ?_⟩) ?_ ?_
                                rotate_left
                                · intro w'
                                  go_simp
                                  with_reducible rfl
                                rotate_left
                                · simp only [Act.put, sT5_, sZ5_, sS5_, i64_w, i32_w]
                                  rfl
                                refine pure_ (i := 5) (N := some 99) (v := ?_) (a' := ?_) #[true, true, true, true, true, true, false, false, false, false, false, false, false] rfl rfl (any_of HT_.out (by kernel_rfl)) (fun _ _ _ h => h) (Or.inl ⟨by rfl, ?_⟩) ?_ ?_
                                rotate_left
                                · intro w'
                                  go_simp
                                  with_reducible rfl
                                rotate_left
                                · simp only [Act.put, sT5_, sZ5_, sS5_, i64_w, i32_w]
                                  rfl
                                refine take_ (i := 6) (N := some 100) (v := ?_) (a' := ?_) #[true, true, true, true, true, true, true, false, false, false, false, false, false] rfl rfl (take_ofW HT_.out HW_.out (by kernel_rfl)) (fun _ _ _ h => h) (Or.inl ⟨by rfl, ?_⟩) hHeld ?_ ?_
                                rotate_left
                                · rintro w' ⟨s0, s1, s2, s3, s4, s5⟩
                                  go_simp
                                  with_reducible rfl
                                rotate_left
                                · simp only [Act.put, sT5_, sZ5_, sS5_, i64_w, i32_w]
                                  rfl
                                refine one_ (i := 7) (N := some 101) #[true, true, true, true, true, true, true, true, false, false, false, false, false] rfl rfl (one_of HT_.out (by kernel_rfl)) (by decide) (fun K hK => ?_)
                                refine goes_ Try.func15 (by kernel_rfl) rfl #[.agg #[.int .i64 t197, .slice Ao20 t198.length co20], .int .i64 ((rd_T39 l0_1 x15_3).f0)] (by rfl) rfl rfl (by (try simp only [List.map_toArray, List.map_cons, List.map_nil]); first | done | rfl | (simp only [List.length_drop, List.length_take]; rfl)) ?_
                                with_reducible refine (blob_Get.calls k3 t197 _ _ t198 ((rd_T39 l0_1 x15_3).f0) t216 true _ ?side1 ?side2 A59.out).mono ?_
                                (case side1 => repeat (first | exact (Kd.V_reads' HO_204001.out).2.2 | (with_reducible refine Kd.C_alloc ?_ _) | (with_reducible refine Kd.C_drewN ?_ _) | (with_reducible refine Kd.C_drew ?_)))
                                (case side2 => exact (Kd.V_reads' HO_204001.out).2.1)
                                rintro e w66 ⟨rfl, hb⟩
                                refine ⟨_, rfl, ?_⟩
                                have n0_ := a5_ (Kd.V_below (by (with_reducible repeat (first | apply Kd.V_alloc | apply Kd.V_drewN | apply Kd.V_drew)); exact HO_204001.out) hb)
                                have n1_ := a5_ (Kd.V_below (by (with_reducible repeat (first | apply Kd.V_alloc | apply Kd.V_drewN | apply Kd.V_drew)); exact HO_213001.out) hb)
                                have n2_ := a5_ (blk_below (g := gb195) (o := .cells #[.int .i64 a0_0, .slice (some ad215) l0_1.length c0_1] 24 (0, 0)) (by (with_reducible repeat (first | refine blk_drewN ?_ _ | refine blk_drew ?_ | refine blk_alloc ?_ _)); exact BK195.out) hb)
                                have n3_ := a5_ (blk_below (g := gb203) (o := .cells #[.int .i64 t197, .slice Ao20 t198.length co20] 24 (0, 0)) (by (with_reducible repeat (first | refine blk_drewN ?_ _ | refine blk_drew ?_ | refine blk_alloc ?_ _)); exact BK203.out) hb)
                                have n4_ := a5_ (blk_below (g := gb212) (o := .cells #[.int .i64 t206, .slice Ao34 t207.length co34] 24 (0, 0)) (by (with_reducible repeat (first | refine blk_drewN ?_ _ | refine blk_drew ?_ | refine blk_alloc ?_ _)); exact BK212.out) hb)
                                have n5_ := a5_ (below_step (by repeat (first | (with_reducible first | exact HB.out | apply below_alloc | apply q5_ | apply below_drew1 | refine below_set ?_ GE195.out | refine below_set ?_ GE203.out | refine below_set ?_ GE212.out) | exact HB.out)) hb)
                                clear HO_204001
                                clear HO_213001
                                clear BK195
                                clear BK203
                                clear BK212
                                clear HB
                                have HO_204001 := n0_
                                have HO_213001 := n1_
                                have BK195 := n2_
                                have BK203 := n3_
                                have BK212 := n4_
                                have HB := n5_
                                clear n0_ n1_ n2_ n3_ n4_ n5_
                                (try clear hb)
                                (try clear hb2)
                                (try clear hk)
                                (try clear hi)
                                refine hK.out _ _ ⟨(blk_cell BK203.out 0).trans rfl, (blk_cell BK203.out 1).trans rfl, (blk_cell BK195.out 0).trans rfl, (blk_cell BK195.out 1).trans rfl, ((HB.out.cell (World.block_lt_of_cell? w _ hw215_0)).trans hw215_0), ((HB.out.cell (World.block_lt_of_cell? w _ hw215_1)).trans hw215_1)⟩ (fun hHeld => ?_)
                                clear hK K
                                refine norm_ (a' := ?_) ?_ ?_
                                rotate_left
                                · show Act.put _ (some 101) _ = _
                                  simp only [Act.put, sT5_, sZ5_, sS5_, i64_w, i32_w]
                                  rfl
                                refine pure_ (i := 8) (N := some 93) (v := ?_) (a' := ?_) #[true, true, true, true, true, true, true, true, true, false, false, false, false] rfl rfl (any_of HT_.out (by kernel_rfl)) (fun _ _ _ h => h) (Or.inl ⟨by rfl, ?_⟩) ?_ ?_
                                rotate_left
                                · intro w'
                                  go_simp
                                  with_reducible rfl
                                rotate_left
                                · simp only [Act.put, sT5_, sZ5_, sS5_, i64_w, i32_w]
                                  rfl
                                refine pure_ (i := 9) (N := some 102) (v := ?_) (a' := ?_) #[true, true, true, true, true, true, true, true, true, true, false, false, false] rfl rfl (any_of HT_.out (by kernel_rfl)) (fun _ _ _ h => h) (Or.inl ⟨by rfl, ?_⟩) ?_ ?_
                                rotate_left
                                · intro w'
                                  go_simp
                                  with_reducible rfl
                                rotate_left
                                · simp only [Act.put, sT5_, sZ5_, sS5_, i64_w, i32_w]
                                  rfl
                                refine pure_ (i := 10) (N := some 103) (v := ?_) (a' := ?_) #[true, true, true, true, true, true, true, true, true, true, true, false, false] rfl rfl (any_of HT_.out (by kernel_rfl)) (fun _ _ _ h => h) (Or.inl ⟨by rfl, ?_⟩) ?_ ?_
                                rotate_left
                                · intro w'
                                  go_simp
                                  with_reducible rfl
                                rotate_left
                                · simp only [Act.put, sT5_, sZ5_, sS5_, i64_w, i32_w]
                                  rfl
                                refine pure_ (i := 11) (N := some 16) (v := ?_) (a' := ?_) #[true, true, true, true, true, true, true, true, true, true, true, true, false] rfl rfl (any_of HT_.out (by kernel_rfl)) (fun _ _ _ h => h) (Or.inl ⟨by rfl, ?_⟩) ?_ ?_
                                rotate_left
                                · intro w'
                                  go_simp
                                  with_reducible rfl
                                rotate_left
                                · simp only [Act.put, sT5_, sZ5_, sS5_, i64_w, i32_w]
                                  rfl
                                refine pure_ (i := 12) (N := some 17) (v := ?_) (a' := ?_) #[true, true, true, true, true, true, true, true, true, true, true, true, true] rfl rfl (any_of HT_.out (by kernel_rfl)) (fun _ _ _ h => h) (Or.inl ⟨by rfl, ?_⟩) ?_ ?_
                                rotate_left
                                · intro w'
                                  go_simp
                                  with_reducible rfl
                                rotate_left
                                · simp only [Act.put, sT5_, sZ5_, sS5_, i64_w, i32_w]
                                  rfl
                                refine done_ (done_of HT_.out (by kernel_rfl)) ?_
                                have hcz67_0 : w66.cell? ⟨gb195, 0, none⟩ = some (.int .i64 a0_0) := (blk_cell BK195.out 0).trans rfl
                                have hcz67_1 : w66.cell? ⟨gb195, 1, none⟩ = some (.slice (some ad215) l0_1.length c0_1) := (blk_cell BK195.out 1).trans rfl
                                have hfz67_0 := blk_frozen BK195.out 0
                                have hfz67_1 := blk_frozen BK195.out 1
                                have p218 : 0 ≤ (x15_3 : Int) := of_decide_eq_true (by first | (with_reducible assumption) | assumption)
                                have q218 : x15_3 < (l0_1.length : Int) := of_decide_eq_true (by first | (with_reducible assumption) | assumption)
                                obtain ⟨ad218, e218, hx218_0, hx218_1⟩ := at_T39 HR0_1.out x15_3 p218 q218
                                obtain rfl : ad215 = ad218 := (by injection e218)
                                replace hx218_0 := (HB.out.cell (World.block_lt_of_cell? w _ hx218_0)).trans hx218_0
                                replace hx218_1 := (HB.out.cell (World.block_lt_of_cell? w _ hx218_1)).trans hx218_1
                                replace p218 := eq_true p218
                                replace q218 := eq_true q218
                                try go_wp2
                                go_roundg k3
                                case measure => have := HJ5.out; have := HJ23.out; have := HK3.out; omega
                                case rel => exact ⟨(wrap64 (x15_3 + 1)), (by first | rfl | (simp; done) | (simp [*]; done)), H', ⟨by have := HJ5.out; have := HJ23.out; have := HK3.out; omega⟩, ⟨by (with_reducible repeat (first | apply Kd.V_alloc | apply Kd.V_drewN | apply Kd.V_drew)); exact HO_204001.out⟩, ⟨by (with_reducible repeat (first | apply Kd.V_alloc | apply Kd.V_drewN | apply Kd.V_drew)); exact HO_213001.out⟩, ⟨by (with_reducible repeat (first | refine blk_drewN ?_ _ | refine blk_drew ?_ | refine blk_alloc ?_ _)); exact BK195.out⟩, ⟨by (with_reducible repeat (first | refine blk_drewN ?_ _ | refine blk_drew ?_ | refine blk_alloc ?_ _)); exact BK203.out⟩, ⟨by (with_reducible repeat (first | refine blk_drewN ?_ _ | refine blk_drew ?_ | refine blk_alloc ?_ _)); exact BK212.out⟩, ⟨by repeat (first | (with_reducible first | exact HB.out | apply below_alloc | apply q5_ | apply below_drew1 | refine below_set ?_ GE195.out | refine below_set ?_ GE203.out | refine below_set ?_ GE212.out) | exact HB.out)⟩⟩
                              · rw [if_neg c61] at H
                                have c61b0 : (t216.toList == ((rd_T39 l0_1 x15_3).f1).toList) = false := beq_eq_false_iff_ne.mpr c61
                                have c61b1 : (t216.toList != ((rd_T39 l0_1 x15_3).f1).toList) = true := bne_iff_ne.mpr c61
                                obtain rfl := Option.some.inj H
                                have hnb68 := NB195_203.out
                                have hnc68 := NB203_195.out
                                have hnb69 := NB195_212.out
                                have hnc69 := NB212_195.out
                                have hcz70_0 : wr.cell? ⟨gb195, 0, none⟩ = some (.int .i64 a0_0) := (blk_cell BK195.out 0).trans rfl
                                have hcz70_1 : wr.cell? ⟨gb195, 1, none⟩ = some (.slice A0_1 l0_1.length c0_1) := (blk_cell BK195.out 1).trans rfl
                                have hfz70_0 := blk_frozen BK195.out 0
                                have hfz70_1 := blk_frozen BK195.out 1
                                try go_wp2
                                have n0_ := a5_ (Kd.V_drew HO_204001.out)
                                have n1_ := a5_ (Kd.V_drew HO_213001.out)
                                have n2_ := a5_ (blk_drew BK195.out)
                                have n3_ := a5_ (blk_drew BK203.out)
                                have n4_ := a5_ (blk_drew BK212.out)
                                have n5_ := a5_ (below_drew1 HB.out)
                                clear HO_204001
                                clear HO_213001
                                clear BK195
                                clear BK203
                                clear BK212
                                clear HB
                                have HO_204001 := n0_
                                have HO_213001 := n1_
                                have BK195 := n2_
                                have BK203 := n3_
                                have BK212 := n4_
                                have HB := n5_
                                clear n0_ n1_ n2_ n3_ n4_ n5_
                                have p215 : 0 ≤ (x15_3 : Int) := of_decide_eq_true (by first | (with_reducible assumption) | assumption)
                                have q215 : x15_3 < (l0_1.length : Int) := of_decide_eq_true (by first | (with_reducible assumption) | assumption)
                                obtain ⟨ad215, e215, hx215_0, hx215_1⟩ := at_T39 HR0_1.out x15_3 p215 q215
                                have hw215_1 := hx215_1
                                have hw215_0 := hx215_0
                                cases e215
                                replace hx215_0 := (HB.out.cell (World.block_lt_of_cell? w _ hx215_0)).trans hx215_0
                                replace hx215_1 := (HB.out.cell (World.block_lt_of_cell? w _ hx215_1)).trans hx215_1
                                replace p215 := eq_true p215
                                replace q215 := eq_true q215
                                refine start_ (n := 13) (S := fun w' => w'.cell? ⟨gb203, 0, none⟩ = some (.int .i64 t197) ∧ w'.cell? ⟨gb203, 1, none⟩ = some (.slice Ao20 t198.length co20) ∧ w'.cell? ⟨gb195, 0, none⟩ = some (.int .i64 a0_0) ∧ w'.cell? ⟨gb195, 1, none⟩ = some (.slice (some ad215) l0_1.length c0_1) ∧ w'.cell? (ad215.add ((x15_3).toNat * 2)) = some (.int .i64 ((rd_T39 l0_1 x15_3).f0)) ∧ w'.cell? ⟨(ad215.add ((x15_3).toNat * 2)).block, (ad215.add ((x15_3).toNat * 2)).off + 1, none⟩ = some (.string ((rd_T39 l0_1 x15_3).f1))) (ds := []) #[false, false, false, false, false, false, false, false, false, false, false, false, false] (by kernel_rfl) rfl rfl ⟨(blk_cell BK203.out 0).trans rfl, (blk_cell BK203.out 1).trans rfl, (blk_cell BK195.out 0).trans rfl, (blk_cell BK195.out 1).trans rfl, ((HB.out.cell (World.block_lt_of_cell? w _ hw215_0)).trans hw215_0), ((HB.out.cell (World.block_lt_of_cell? w _ hw215_1)).trans hw215_1)⟩ (fun hHeld => ?_); refine with_tabW codesearchlaw24_BlobShares.tab14 codesearchlaw24_BlobShares.bits14 (fun HT_ HW_ => ?_)
                                generalize wr.drew = w71 at HO_204001 HO_213001 BK195 BK203 BK212 HB hx215_0 hx215_1 hHeld ⊢
                                refine pure_ (i := 1) (N := some 95) (v := ?_) (a' := ?_) #[false, true, false, false, false, false, false, false, false, false, false, false, false] rfl rfl (any_of HT_.out (by kernel_rfl)) (fun _ _ _ h => h) (Or.inl ⟨by rfl, ?_⟩) ?_ ?_
                                rotate_left
                                · intro w'
                                  go_simp
                                  with_reducible rfl
                                rotate_left
                                · simp only [Act.put, sT5_, sZ5_, sS5_, i64_w, i32_w]
                                  rfl
                                refine pure_ (i := 3) (N := some 97) (v := ?_) (a' := ?_) #[false, true, false, true, false, false, false, false, false, false, false, false, false] rfl rfl (any_of HT_.out (by kernel_rfl)) (fun _ _ _ h => h) (Or.inl ⟨by rfl, ?_⟩) ?_ ?_
                                rotate_left
                                · intro w'
                                  go_simp
                                  with_reducible rfl
                                rotate_left
                                · simp only [Act.put, sT5_, sZ5_, sS5_, i64_w, i32_w]
                                  rfl
                                refine take_ (i := 0) (N := some 94) (v := ?_) (a' := ?_) #[true, true, false, true, false, false, false, false, false, false, false, false, false] rfl rfl (take_ofW HT_.out HW_.out (by kernel_rfl)) (fun _ _ _ h => h) (Or.inl ⟨by rfl, ?_⟩) hHeld ?_ ?_
                                rotate_left
                                · rintro w' ⟨s0, s1, s2, s3, s4, s5⟩
                                  go_simp
                                  with_reducible rfl
                                rotate_left
                                · simp only [Act.put, sT5_, sZ5_, sS5_, i64_w, i32_w]
                                  rfl
                                refine take_ (i := 2) (N := some 96) (v := ?_) (a' := ?_) #[true, true, true, true, false, false, false, false, false, false, false, false, false] rfl rfl (take_ofW HT_.out HW_.out (by kernel_rfl)) (fun _ _ _ h => h) (Or.inl ⟨by rfl, ?_⟩) hHeld ?_ ?_
                                rotate_left
                                · rintro w' ⟨s0, s1, s2, s3, s4, s5⟩
                                  go_simp
                                  with_reducible rfl
                                rotate_left
                                · simp only [Act.put, sT5_, sZ5_, sS5_, i64_w, i32_w]
                                  rfl
                                refine pure_ (i := 4) (N := some 98) (v := ?_) (a' := ?_) #[true, true, true, true, true, false, false, false, false, false, false, false, false] rfl rfl (any_of HT_.out (by kernel_rfl)) (fun _ _ _ h => h) (Or.inl ⟨by rfl, ?_⟩) ?_ ?_
                                rotate_left
                                · intro w'
                                  go_simp
                                  with_reducible rfl
                                rotate_left
                                · simp only [Act.put, sT5_, sZ5_, sS5_, i64_w, i32_w]
                                  rfl
                                refine pure_ (i := 5) (N := some 99) (v := ?_) (a' := ?_) #[true, true, true, true, true, true, false, false, false, false, false, false, false] rfl rfl (any_of HT_.out (by kernel_rfl)) (fun _ _ _ h => h) (Or.inl ⟨by rfl, ?_⟩) ?_ ?_
                                rotate_left
                                · intro w'
                                  go_simp
                                  with_reducible rfl
                                rotate_left
                                · simp only [Act.put, sT5_, sZ5_, sS5_, i64_w, i32_w]
                                  rfl
                                refine take_ (i := 6) (N := some 100) (v := ?_) (a' := ?_) #[true, true, true, true, true, true, true, false, false, false, false, false, false] rfl rfl (take_ofW HT_.out HW_.out (by kernel_rfl)) (fun _ _ _ h => h) (Or.inl ⟨by rfl, ?_⟩) hHeld ?_ ?_
                                rotate_left
                                · rintro w' ⟨s0, s1, s2, s3, s4, s5⟩
                                  go_simp
                                  with_reducible rfl
                                rotate_left
                                · simp only [Act.put, sT5_, sZ5_, sS5_, i64_w, i32_w]
                                  rfl
                                refine one_ (i := 7) (N := some 101) #[true, true, true, true, true, true, true, true, false, false, false, false, false] rfl rfl (one_of HT_.out (by kernel_rfl)) (by decide) (fun K hK => ?_)
                                refine goes_ Try.func15 (by kernel_rfl) rfl #[.agg #[.int .i64 t197, .slice Ao20 t198.length co20], .int .i64 ((rd_T39 l0_1 x15_3).f0)] (by rfl) rfl rfl (by (try simp only [List.map_toArray, List.map_cons, List.map_nil]); first | done | rfl | (simp only [List.length_drop, List.length_take]; rfl)) ?_
                                with_reducible refine (blob_Get.calls k3 t197 _ _ t198 ((rd_T39 l0_1 x15_3).f0) t216 true _ ?side1 ?side2 A59.out).mono ?_
                                (case side1 => repeat (first | exact (Kd.V_reads' HO_204001.out).2.2 | (with_reducible refine Kd.C_alloc ?_ _) | (with_reducible refine Kd.C_drewN ?_ _) | (with_reducible refine Kd.C_drew ?_)))
                                (case side2 => exact (Kd.V_reads' HO_204001.out).2.1)
                                rintro e w72 ⟨rfl, hb⟩
                                refine ⟨_, rfl, ?_⟩
                                have n0_ := a5_ (Kd.V_below (by (with_reducible repeat (first | apply Kd.V_alloc | apply Kd.V_drewN | apply Kd.V_drew)); exact HO_204001.out) hb)
                                have n1_ := a5_ (Kd.V_below (by (with_reducible repeat (first | apply Kd.V_alloc | apply Kd.V_drewN | apply Kd.V_drew)); exact HO_213001.out) hb)
                                have n2_ := a5_ (blk_below (g := gb195) (o := .cells #[.int .i64 a0_0, .slice (some ad215) l0_1.length c0_1] 24 (0, 0)) (by (with_reducible repeat (first | refine blk_drewN ?_ _ | refine blk_drew ?_ | refine blk_alloc ?_ _)); exact BK195.out) hb)
                                have n3_ := a5_ (blk_below (g := gb203) (o := .cells #[.int .i64 t197, .slice Ao20 t198.length co20] 24 (0, 0)) (by (with_reducible repeat (first | refine blk_drewN ?_ _ | refine blk_drew ?_ | refine blk_alloc ?_ _)); exact BK203.out) hb)
                                have n4_ := a5_ (blk_below (g := gb212) (o := .cells #[.int .i64 t206, .slice Ao34 t207.length co34] 24 (0, 0)) (by (with_reducible repeat (first | refine blk_drewN ?_ _ | refine blk_drew ?_ | refine blk_alloc ?_ _)); exact BK212.out) hb)
                                have n5_ := a5_ (below_step (by repeat (first | (with_reducible first | exact HB.out | apply below_alloc | apply q5_ | apply below_drew1 | refine below_set ?_ GE195.out | refine below_set ?_ GE203.out | refine below_set ?_ GE212.out) | exact HB.out)) hb)
                                clear HO_204001
                                clear HO_213001
                                clear BK195
                                clear BK203
                                clear BK212
                                clear HB
                                have HO_204001 := n0_
                                have HO_213001 := n1_
                                have BK195 := n2_
                                have BK203 := n3_
                                have BK212 := n4_
                                have HB := n5_
                                clear n0_ n1_ n2_ n3_ n4_ n5_
                                (try clear hb)
                                (try clear hb2)
                                (try clear hk)
                                (try clear hi)
                                refine hK.out _ _ ⟨(blk_cell BK203.out 0).trans rfl, (blk_cell BK203.out 1).trans rfl, (blk_cell BK195.out 0).trans rfl, (blk_cell BK195.out 1).trans rfl, ((HB.out.cell (World.block_lt_of_cell? w _ hw215_0)).trans hw215_0), ((HB.out.cell (World.block_lt_of_cell? w _ hw215_1)).trans hw215_1)⟩ (fun hHeld => ?_)
                                clear hK K
                                refine norm_ (a' := ?_) ?_ ?_
                                rotate_left
                                · show Act.put _ (some 101) _ = _
                                  simp only [Act.put, sT5_, sZ5_, sS5_, i64_w, i32_w]
                                  rfl
                                refine pure_ (i := 8) (N := some 93) (v := ?_) (a' := ?_) #[true, true, true, true, true, true, true, true, true, false, false, false, false] rfl rfl (any_of HT_.out (by kernel_rfl)) (fun _ _ _ h => h) (Or.inl ⟨by rfl, ?_⟩) ?_ ?_
                                rotate_left
                                · intro w'
                                  go_simp
                                  with_reducible rfl
                                rotate_left
                                · simp only [Act.put, sT5_, sZ5_, sS5_, i64_w, i32_w]
                                  rfl
                                refine pure_ (i := 9) (N := some 102) (v := ?_) (a' := ?_) #[true, true, true, true, true, true, true, true, true, true, false, false, false] rfl rfl (any_of HT_.out (by kernel_rfl)) (fun _ _ _ h => h) (Or.inl ⟨by rfl, ?_⟩) ?_ ?_
                                rotate_left
                                · intro w'
                                  go_simp
                                  with_reducible rfl
                                rotate_left
                                · simp only [Act.put, sT5_, sZ5_, sS5_, i64_w, i32_w]
                                  rfl
                                refine pure_ (i := 10) (N := some 103) (v := ?_) (a' := ?_) #[true, true, true, true, true, true, true, true, true, true, true, false, false] rfl rfl (any_of HT_.out (by kernel_rfl)) (fun _ _ _ h => h) (Or.inl ⟨by rfl, ?_⟩) ?_ ?_
                                rotate_left
                                · intro w'
                                  go_simp
                                  with_reducible rfl
                                rotate_left
                                · simp only [Act.put, sT5_, sZ5_, sS5_, i64_w, i32_w]
                                  rfl
                                refine pure_ (i := 11) (N := some 16) (v := ?_) (a' := ?_) #[true, true, true, true, true, true, true, true, true, true, true, true, false] rfl rfl (any_of HT_.out (by kernel_rfl)) (fun _ _ _ h => h) (Or.inl ⟨by rfl, ?_⟩) ?_ ?_
                                rotate_left
                                · intro w'
                                  go_simp
                                  with_reducible rfl
                                rotate_left
                                · simp only [Act.put, sT5_, sZ5_, sS5_, i64_w, i32_w]
                                  rfl
                                refine pure_ (i := 12) (N := some 17) (v := ?_) (a' := ?_) #[true, true, true, true, true, true, true, true, true, true, true, true, true] rfl rfl (any_of HT_.out (by kernel_rfl)) (fun _ _ _ h => h) (Or.inl ⟨by rfl, ?_⟩) ?_ ?_
                                rotate_left
                                · intro w'
                                  go_simp
                                  with_reducible rfl
                                rotate_left
                                · simp only [Act.put, sT5_, sZ5_, sS5_, i64_w, i32_w]
                                  rfl
                                refine done_ (done_of HT_.out (by kernel_rfl)) ?_
                                have hcz73_0 : w72.cell? ⟨gb195, 0, none⟩ = some (.int .i64 a0_0) := (blk_cell BK195.out 0).trans rfl
                                have hcz73_1 : w72.cell? ⟨gb195, 1, none⟩ = some (.slice (some ad215) l0_1.length c0_1) := (blk_cell BK195.out 1).trans rfl
                                have hfz73_0 := blk_frozen BK195.out 0
                                have hfz73_1 := blk_frozen BK195.out 1
                                have p218 : 0 ≤ (x15_3 : Int) := of_decide_eq_true (by first | (with_reducible assumption) | assumption)
                                have q218 : x15_3 < (l0_1.length : Int) := of_decide_eq_true (by first | (with_reducible assumption) | assumption)
                                obtain ⟨ad218, e218, hx218_0, hx218_1⟩ := at_T39 HR0_1.out x15_3 p218 q218
                                obtain rfl : ad215 = ad218 := (by injection e218)
                                replace hx218_0 := (HB.out.cell (World.block_lt_of_cell? w _ hx218_0)).trans hx218_0
                                replace hx218_1 := (HB.out.cell (World.block_lt_of_cell? w _ hx218_1)).trans hx218_1
                                replace p218 := eq_true p218
                                replace q218 := eq_true q218
                                try go_wp2
                                go_ret
                                exact ⟨by first | rfl | (simp [errW_none, errW_some] <;> rfl) | (simp [*, errW_none, errW_some] <;> rfl), by repeat (first | (with_reducible first | exact HB.out | apply below_alloc | apply q5_ | apply below_drew1 | refine below_set ?_ GE195.out | refine below_set ?_ GE203.out | refine below_set ?_ GE212.out) | exact HB.out)⟩
                            · replace c60 := Bool.eq_false_iff.mpr c60
                              subst c60
                              have H1 : (some false) = some r := by rw [if_neg (show ¬ (false = true) by decide)] at H; exact H
                              clear H
                              have H := H1
                              clear H1
                              obtain rfl := Option.some.inj H
                              have hnb74 := NB195_203.out
                              have hnc74 := NB203_195.out
                              have hnb75 := NB195_212.out
                              have hnc75 := NB212_195.out
                              have hcz76_0 : wr.cell? ⟨gb195, 0, none⟩ = some (.int .i64 a0_0) := (blk_cell BK195.out 0).trans rfl
                              have hcz76_1 : wr.cell? ⟨gb195, 1, none⟩ = some (.slice A0_1 l0_1.length c0_1) := (blk_cell BK195.out 1).trans rfl
                              have hfz76_0 := blk_frozen BK195.out 0
                              have hfz76_1 := blk_frozen BK195.out 1
                              try go_wp2
                              have n0_ := a5_ (Kd.V_drew HO_204001.out)
                              have n1_ := a5_ (Kd.V_drew HO_213001.out)
                              have n2_ := a5_ (blk_drew BK195.out)
                              have n3_ := a5_ (blk_drew BK203.out)
                              have n4_ := a5_ (blk_drew BK212.out)
                              have n5_ := a5_ (below_drew1 HB.out)
                              clear HO_204001
                              clear HO_213001
                              clear BK195
                              clear BK203
                              clear BK212
                              clear HB
                              have HO_204001 := n0_
                              have HO_213001 := n1_
                              have BK195 := n2_
                              have BK203 := n3_
                              have BK212 := n4_
                              have HB := n5_
                              clear n0_ n1_ n2_ n3_ n4_ n5_
                              have p215 : 0 ≤ (x15_3 : Int) := of_decide_eq_true (by first | (with_reducible assumption) | assumption)
                              have q215 : x15_3 < (l0_1.length : Int) := of_decide_eq_true (by first | (with_reducible assumption) | assumption)
                              obtain ⟨ad215, e215, hx215_0, hx215_1⟩ := at_T39 HR0_1.out x15_3 p215 q215
                              have hw215_1 := hx215_1
                              have hw215_0 := hx215_0
                              cases e215
                              replace hx215_0 := (HB.out.cell (World.block_lt_of_cell? w _ hx215_0)).trans hx215_0
                              replace hx215_1 := (HB.out.cell (World.block_lt_of_cell? w _ hx215_1)).trans hx215_1
                              replace p215 := eq_true p215
                              replace q215 := eq_true q215
                              refine start_ (n := 13) (S := fun w' => w'.cell? ⟨gb203, 0, none⟩ = some (.int .i64 t197) ∧ w'.cell? ⟨gb203, 1, none⟩ = some (.slice Ao20 t198.length co20) ∧ w'.cell? ⟨gb195, 0, none⟩ = some (.int .i64 a0_0) ∧ w'.cell? ⟨gb195, 1, none⟩ = some (.slice (some ad215) l0_1.length c0_1) ∧ w'.cell? (ad215.add ((x15_3).toNat * 2)) = some (.int .i64 ((rd_T39 l0_1 x15_3).f0)) ∧ w'.cell? ⟨(ad215.add ((x15_3).toNat * 2)).block, (ad215.add ((x15_3).toNat * 2)).off + 1, none⟩ = some (.string ((rd_T39 l0_1 x15_3).f1))) (ds := []) #[false, false, false, false, false, false, false, false, false, false, false, false, false] (by kernel_rfl) rfl rfl ⟨(blk_cell BK203.out 0).trans rfl, (blk_cell BK203.out 1).trans rfl, (blk_cell BK195.out 0).trans rfl, (blk_cell BK195.out 1).trans rfl, ((HB.out.cell (World.block_lt_of_cell? w _ hw215_0)).trans hw215_0), ((HB.out.cell (World.block_lt_of_cell? w _ hw215_1)).trans hw215_1)⟩ (fun hHeld => ?_); refine with_tabW codesearchlaw24_BlobShares.tab14 codesearchlaw24_BlobShares.bits14 (fun HT_ HW_ => ?_)
                              generalize wr.drew = w77 at HO_204001 HO_213001 BK195 BK203 BK212 HB hx215_0 hx215_1 hHeld ⊢
                              refine pure_ (i := 1) (N := some 95) (v := ?_) (a' := ?_) #[false, true, false, false, false, false, false, false, false, false, false, false, false] rfl rfl (any_of HT_.out (by kernel_rfl)) (fun _ _ _ h => h) (Or.inl ⟨by rfl, ?_⟩) ?_ ?_
                              rotate_left
                              · intro w'
                                go_simp
                                with_reducible rfl
                              rotate_left
                              · simp only [Act.put, sT5_, sZ5_, sS5_, i64_w, i32_w]
                                rfl
                              refine pure_ (i := 3) (N := some 97) (v := ?_) (a' := ?_) #[false, true, false, true, false, false, false, false, false, false, false, false, false] rfl rfl (any_of HT_.out (by kernel_rfl)) (fun _ _ _ h => h) (Or.inl ⟨by rfl, ?_⟩) ?_ ?_
                              rotate_left
                              · intro w'
                                go_simp
                                with_reducible rfl
                              rotate_left
                              · simp only [Act.put, sT5_, sZ5_, sS5_, i64_w, i32_w]
                                rfl
                              refine take_ (i := 0) (N := some 94) (v := ?_) (a' := ?_) #[true, true, false, true, false, false, false, false, false, false, false, false, false] rfl rfl (take_ofW HT_.out HW_.out (by kernel_rfl)) (fun _ _ _ h => h) (Or.inl ⟨by rfl, ?_⟩) hHeld ?_ ?_
                              rotate_left
                              · rintro w' ⟨s0, s1, s2, s3, s4, s5⟩
                                go_simp
                                with_reducible rfl
                              rotate_left
                              · simp only [Act.put, sT5_, sZ5_, sS5_, i64_w, i32_w]
                                rfl
                              refine take_ (i := 2) (N := some 96) (v := ?_) (a' := ?_) #[true, true, true, true, false, false, false, false, false, false, false, false, false] rfl rfl (take_ofW HT_.out HW_.out (by kernel_rfl)) (fun _ _ _ h => h) (Or.inl ⟨by rfl, ?_⟩) hHeld ?_ ?_
                              rotate_left
                              · rintro w' ⟨s0, s1, s2, s3, s4, s5⟩
                                go_simp
                                with_reducible rfl
                              rotate_left
                              · simp only [Act.put, sT5_, sZ5_, sS5_, i64_w, i32_w]
                                rfl
                              refine pure_ (i := 4) (N := some 98) (v := ?_) (a' := ?_) #[true, true, true, true, true, false, false, false, false, false, false, false, false] rfl rfl (any_of HT_.out (by kernel_rfl)) (fun _ _ _ h => h) (Or.inl ⟨by rfl, ?_⟩) ?_ ?_
                              rotate_left
                              · intro w'
                                go_simp
                                with_reducible rfl
                              rotate_left
                              · simp only [Act.put, sT5_, sZ5_, sS5_, i64_w, i32_w]
                                rfl
                              refine pure_ (i := 5) (N := some 99) (v := ?_) (a' := ?_) #[true, true, true, true, true, true, false, false, false, false, false, false, false] rfl rfl (any_of HT_.out (by kernel_rfl)) (fun _ _ _ h => h) (Or.inl ⟨by rfl, ?_⟩) ?_ ?_
                              rotate_left
                              · intro w'
                                go_simp
                                with_reducible rfl
                              rotate_left
                              · simp only [Act.put, sT5_, sZ5_, sS5_, i64_w, i32_w]
                                rfl
                              refine take_ (i := 6) (N := some 100) (v := ?_) (a' := ?_) #[true, true, true, true, true, true, true, false, false, false, false, false, false] rfl rfl (take_ofW HT_.out HW_.out (by kernel_rfl)) (fun _ _ _ h => h) (Or.inl ⟨by rfl, ?_⟩) hHeld ?_ ?_
                              rotate_left
                              · rintro w' ⟨s0, s1, s2, s3, s4, s5⟩
                                go_simp
                                with_reducible rfl
                              rotate_left
                              · simp only [Act.put, sT5_, sZ5_, sS5_, i64_w, i32_w]
                                rfl
                              refine one_ (i := 7) (N := some 101) #[true, true, true, true, true, true, true, true, false, false, false, false, false] rfl rfl (one_of HT_.out (by kernel_rfl)) (by decide) (fun K hK => ?_)
                              refine goes_ Try.func15 (by kernel_rfl) rfl #[.agg #[.int .i64 t197, .slice Ao20 t198.length co20], .int .i64 ((rd_T39 l0_1 x15_3).f0)] (by rfl) rfl rfl (by (try simp only [List.map_toArray, List.map_cons, List.map_nil]); first | done | rfl | (simp only [List.length_drop, List.length_take]; rfl)) ?_
                              with_reducible refine (blob_Get.calls k3 t197 _ _ t198 ((rd_T39 l0_1 x15_3).f0) t216 false _ ?side1 ?side2 A59.out).mono ?_
                              (case side1 => repeat (first | exact (Kd.V_reads' HO_204001.out).2.2 | (with_reducible refine Kd.C_alloc ?_ _) | (with_reducible refine Kd.C_drewN ?_ _) | (with_reducible refine Kd.C_drew ?_)))
                              (case side2 => exact (Kd.V_reads' HO_204001.out).2.1)
                              rintro e w78 ⟨rfl, hb⟩
                              refine ⟨_, rfl, ?_⟩
                              have n0_ := a5_ (Kd.V_below (by (with_reducible repeat (first | apply Kd.V_alloc | apply Kd.V_drewN | apply Kd.V_drew)); exact HO_204001.out) hb)
                              have n1_ := a5_ (Kd.V_below (by (with_reducible repeat (first | apply Kd.V_alloc | apply Kd.V_drewN | apply Kd.V_drew)); exact HO_213001.out) hb)
                              have n2_ := a5_ (blk_below (g := gb195) (o := .cells #[.int .i64 a0_0, .slice (some ad215) l0_1.length c0_1] 24 (0, 0)) (by (with_reducible repeat (first | refine blk_drewN ?_ _ | refine blk_drew ?_ | refine blk_alloc ?_ _)); exact BK195.out) hb)
                              have n3_ := a5_ (blk_below (g := gb203) (o := .cells #[.int .i64 t197, .slice Ao20 t198.length co20] 24 (0, 0)) (by (with_reducible repeat (first | refine blk_drewN ?_ _ | refine blk_drew ?_ | refine blk_alloc ?_ _)); exact BK203.out) hb)
                              have n4_ := a5_ (blk_below (g := gb212) (o := .cells #[.int .i64 t206, .slice Ao34 t207.length co34] 24 (0, 0)) (by (with_reducible repeat (first | refine blk_drewN ?_ _ | refine blk_drew ?_ | refine blk_alloc ?_ _)); exact BK212.out) hb)
                              have n5_ := a5_ (below_step (by repeat (first | (with_reducible first | exact HB.out | apply below_alloc | apply q5_ | apply below_drew1 | refine below_set ?_ GE195.out | refine below_set ?_ GE203.out | refine below_set ?_ GE212.out) | exact HB.out)) hb)
                              clear HO_204001
                              clear HO_213001
                              clear BK195
                              clear BK203
                              clear BK212
                              clear HB
                              have HO_204001 := n0_
                              have HO_213001 := n1_
                              have BK195 := n2_
                              have BK203 := n3_
                              have BK212 := n4_
                              have HB := n5_
                              clear n0_ n1_ n2_ n3_ n4_ n5_
                              (try clear hb)
                              (try clear hb2)
                              (try clear hk)
                              (try clear hi)
                              refine hK.out _ _ ⟨(blk_cell BK203.out 0).trans rfl, (blk_cell BK203.out 1).trans rfl, (blk_cell BK195.out 0).trans rfl, (blk_cell BK195.out 1).trans rfl, ((HB.out.cell (World.block_lt_of_cell? w _ hw215_0)).trans hw215_0), ((HB.out.cell (World.block_lt_of_cell? w _ hw215_1)).trans hw215_1)⟩ (fun hHeld => ?_)
                              clear hK K
                              refine norm_ (a' := ?_) ?_ ?_
                              rotate_left
                              · show Act.put _ (some 101) _ = _
                                simp only [Act.put, sT5_, sZ5_, sS5_, i64_w, i32_w]
                                rfl
                              refine pure_ (i := 8) (N := some 93) (v := ?_) (a' := ?_) #[true, true, true, true, true, true, true, true, true, false, false, false, false] rfl rfl (any_of HT_.out (by kernel_rfl)) (fun _ _ _ h => h) (Or.inl ⟨by rfl, ?_⟩) ?_ ?_
                              rotate_left
                              · intro w'
                                go_simp
                                with_reducible rfl
                              rotate_left
                              · simp only [Act.put, sT5_, sZ5_, sS5_, i64_w, i32_w]
                                rfl
                              refine pure_ (i := 9) (N := some 102) (v := ?_) (a' := ?_) #[true, true, true, true, true, true, true, true, true, true, false, false, false] rfl rfl (any_of HT_.out (by kernel_rfl)) (fun _ _ _ h => h) (Or.inl ⟨by rfl, ?_⟩) ?_ ?_
                              rotate_left
                              · intro w'
                                go_simp
                                with_reducible rfl
                              rotate_left
                              · simp only [Act.put, sT5_, sZ5_, sS5_, i64_w, i32_w]
                                rfl
                              refine pure_ (i := 10) (N := some 103) (v := ?_) (a' := ?_) #[true, true, true, true, true, true, true, true, true, true, true, false, false] rfl rfl (any_of HT_.out (by kernel_rfl)) (fun _ _ _ h => h) (Or.inl ⟨by rfl, ?_⟩) ?_ ?_
                              rotate_left
                              · intro w'
                                go_simp
                                with_reducible rfl
                              rotate_left
                              · simp only [Act.put, sT5_, sZ5_, sS5_, i64_w, i32_w]
                                rfl
                              refine pure_ (i := 11) (N := some 16) (v := ?_) (a' := ?_) #[true, true, true, true, true, true, true, true, true, true, true, true, false] rfl rfl (any_of HT_.out (by kernel_rfl)) (fun _ _ _ h => h) (Or.inl ⟨by rfl, ?_⟩) ?_ ?_
                              rotate_left
                              · intro w'
                                go_simp
                                with_reducible rfl
                              rotate_left
                              · simp only [Act.put, sT5_, sZ5_, sS5_, i64_w, i32_w]
                                rfl
                              refine pure_ (i := 12) (N := some 17) (v := ?_) (a' := ?_) #[true, true, true, true, true, true, true, true, true, true, true, true, true] rfl rfl (any_of HT_.out (by kernel_rfl)) (fun _ _ _ h => h) (Or.inl ⟨by rfl, ?_⟩) ?_ ?_
                              rotate_left
                              · intro w'
                                go_simp
                                with_reducible rfl
                              rotate_left
                              · simp only [Act.put, sT5_, sZ5_, sS5_, i64_w, i32_w]
                                rfl
                              refine done_ (done_of HT_.out (by kernel_rfl)) ?_
                              try go_wp2
                              go_ret
                              exact ⟨by first | rfl | (simp [errW_none, errW_some] <;> rfl) | (simp [*, errW_none, errW_some] <;> rfl), by repeat (first | (with_reducible first | exact HB.out | apply below_alloc | apply q5_ | apply below_drew1 | refine below_set ?_ GE195.out | refine below_set ?_ GE203.out | refine below_set ?_ GE212.out) | exact HB.out)⟩
                          · rw [if_neg c58] at H
                            exact absurd H (by simp)
                        · rw [if_neg c57] at H
                          have c57b0 : decide (x15_3 < (l0_1.length : Int)) = false := decide_eq_false c57
                          clear c57
                          have HC79 := a5_ H
                          clear H
                          have hnb80 := NB195_203.out
                          have hnc80 := NB203_195.out
                          have hnb81 := NB195_212.out
                          have hnc81 := NB212_195.out
                          have hcz82_0 : wr.cell? ⟨gb195, 0, none⟩ = some (.int .i64 a0_0) := (blk_cell BK195.out 0).trans rfl
                          have hcz82_1 : wr.cell? ⟨gb195, 1, none⟩ = some (.slice A0_1 l0_1.length c0_1) := (blk_cell BK195.out 1).trans rfl
                          have hfz82_0 := blk_frozen BK195.out 0
                          have hfz82_1 := blk_frozen BK195.out 1
                          go_upto_if 119 with (fail)
                          go_cut [18] (fun v18 wc => ∃ (kq : Nat) (x18_78 : Int), v18 = .int .i64 x18_78 ∧ Aside0 (codesearchlaw24_BlobShares.j3 kq l2 x18_78 a0_0 l0_1 t197 t198 = some r) ∧ Aside0 (kq ≤ k3) ∧ Aside0 (Kd.V k39 39 wc w.heap.size (fun k_ => k_ ≠ gb195 ∧ k_ ≠ gb203 ∧ k_ ≠ gb212) (.slice Ao20 t198.length co20) t198) ∧ Aside0 (Kd.V k39 39 wc w.heap.size (fun k_ => k_ ≠ gb195 ∧ k_ ≠ gb203 ∧ k_ ≠ gb212) (.slice Ao34 t207.length co34) t207) ∧ Aside0 (wc.heap[gb195]? = some (.cells #[.int .i64 a0_0, (.slice A0_1 l0_1.length c0_1)] 24 (0, 0))) ∧ Aside0 (wc.heap[gb203]? = some (.cells #[.int .i64 t197, (.slice Ao20 t198.length co20)] 24 (0, 0))) ∧ Aside0 (wc.heap[gb212]? = some (.cells #[.int .i64 t206, (.slice Ao34 t207.length co34)] 24 (0, 0))) ∧ Aside0 (Below w.heap.size w wc))
                          case first => as_aux_lemma =>
                            have H := HC79.out
                            clear HC79
                            by_cases c83 : t201 = a0_0
                            · rw [if_pos c83] at H
                              have c83b0 : (t201 == a0_0) = true := beq_iff_eq.mpr c83
                              have c83b1 : (t201 != a0_0) = false := bne_eq_false_iff_eq.mpr c83
                              clear c83
                              (first | rw [c83b0] | (simp only [i64_w, i32_w]; rw [c83b0]) | skip)
                              have H' := a5_ H
                              clear H
                              go_wp2
                              go_meet
                              case rel => exact ⟨_, ((a1.size : Int)), (by first | rfl | (simp; done) | (simp [*]; done)), H', ⟨by have := HJ5.out; have := HJ23.out; have := HK3.out; first | omega | exact Nat.le_refl _⟩, ⟨by (with_reducible repeat (first | apply Kd.V_alloc | apply Kd.V_drewN | apply Kd.V_drew)); exact HO_204001.out⟩, ⟨by (with_reducible repeat (first | apply Kd.V_alloc | apply Kd.V_drewN | apply Kd.V_drew)); exact HO_213001.out⟩, ⟨by (with_reducible repeat (first | refine blk_drewN ?_ _ | refine blk_drew ?_ | refine blk_alloc ?_ _)); exact BK195.out⟩, ⟨by (with_reducible repeat (first | refine blk_drewN ?_ _ | refine blk_drew ?_ | refine blk_alloc ?_ _)); exact BK203.out⟩, ⟨by (with_reducible repeat (first | refine blk_drewN ?_ _ | refine blk_drew ?_ | refine blk_alloc ?_ _)); exact BK212.out⟩, ⟨by repeat (first | (with_reducible first | exact HB.out | apply below_alloc | apply q5_ | apply below_drew1 | refine below_set ?_ GE195.out | refine below_set ?_ GE203.out | refine below_set ?_ GE212.out) | exact HB.out)⟩⟩
                            · rw [if_neg c83] at H
                              have c83b0 : (t201 == a0_0) = false := beq_eq_false_iff_ne.mpr c83
                              have c83b1 : (t201 != a0_0) = true := bne_iff_ne.mpr c83
                              (first | rw [c83b0] | (simp only [i64_w, i32_w]; rw [c83b0]) | skip)
                              have H' := a5_ H
                              clear H
                              go_wp2
                              go_meet
                              case rel => exact ⟨_, (0), (by first | rfl | (simp; done) | (simp [*]; done)), H', ⟨by have := HJ5.out; have := HJ23.out; have := HK3.out; first | omega | exact Nat.le_refl _⟩, ⟨by (with_reducible repeat (first | apply Kd.V_alloc | apply Kd.V_drewN | apply Kd.V_drew)); exact HO_204001.out⟩, ⟨by (with_reducible repeat (first | apply Kd.V_alloc | apply Kd.V_drewN | apply Kd.V_drew)); exact HO_213001.out⟩, ⟨by (with_reducible repeat (first | refine blk_drewN ?_ _ | refine blk_drew ?_ | refine blk_alloc ?_ _)); exact BK195.out⟩, ⟨by (with_reducible repeat (first | refine blk_drewN ?_ _ | refine blk_drew ?_ | refine blk_alloc ?_ _)); exact BK203.out⟩, ⟨by (with_reducible repeat (first | refine blk_drewN ?_ _ | refine blk_drew ?_ | refine blk_alloc ?_ _)); exact BK212.out⟩, ⟨by repeat (first | (with_reducible first | exact HB.out | apply below_alloc | apply q5_ | apply below_drew1 | refine below_set ?_ GE195.out | refine below_set ?_ GE203.out | refine below_set ?_ GE212.out) | exact HB.out)⟩⟩
                          case rest => as_aux_lemma =>
                            clear HC79
                            try clear c1
                            try clear p2
                            try clear q2
                            try clear hx2
                            try clear c5
                            try clear c6
                            try clear p6
                            try clear c7
                            try clear c8
                            try clear c15
                            try clear p21
                            try clear q21
                            try clear hx21
                            try clear c57
                            try clear c57b0
                            try clear c58
                            try clear c60
                            try clear c61
                            try clear c61b0
                            try clear c61b1
                            try clear p64
                            try clear c68
                            try clear c69
                            try clear c74
                            try clear c75
                            try clear c80
                            try clear c81
                            try clear c83
                            try clear c83b0
                            try clear c83b1
                            try clear hcz67_0
                            try clear hcz67_1
                            try clear hcz70_0
                            try clear hcz70_1
                            try clear hcz73_0
                            try clear hcz73_1
                            try clear hcz76_0
                            try clear hcz76_1
                            try clear hcz82_0
                            try clear hcz82_1
                            try clear hfz67_0
                            try clear hfz67_1
                            try clear hfz70_0
                            try clear hfz70_1
                            try clear hfz73_0
                            try clear hfz73_1
                            try clear hfz76_0
                            try clear hfz76_1
                            try clear hfz82_0
                            try clear hfz82_1
                            try clear hx215_0
                            try clear hx215_1
                            try clear hx218_0
                            try clear hx218_1
                            try clear p215
                            try clear p218
                            try clear q215
                            try clear q218
                            obtain ⟨kq, x18_78, rfl, HA, HJ78, HO_204001, HO_213001, BK195, BK203, BK212, HB⟩ := hcut
                            cases kq with
                            | zero => exact absurd HA.out (by simp [codesearchlaw24_BlobShares.j3])
                            | succ kj78 =>
                              have H := HA.out
                              clear HA
                              simp only [codesearchlaw24_BlobShares.j3] at H
                              replace H := Option.bind_eq_some_iff.mp H
                              obtain ⟨t219, A840, H⟩ := H
                              replace H : ((blob_Size.f kj78 a0_0 l0_1).bind fun t220 => (if t219 = (wrap64 (t220 + x18_78)) then (codesearchlaw24_BlobShares.j4 kj78 l2 a0_0 l0_1) else (some false))) = some r := H
                              have A84 := a5_ A840
                              clear A840
                              replace H := Option.bind_eq_some_iff.mp H
                              obtain ⟨t220, A850, H⟩ := H
                              replace H : (if t219 = (wrap64 (t220 + x18_78)) then (codesearchlaw24_BlobShares.j4 kj78 l2 a0_0 l0_1) else (some false)) = some r := H
                              have A85 := a5_ A850
                              clear A850
                              by_cases c86 : t219 = (wrap64 (t220 + x18_78))
                              · rw [if_pos c86] at H
                                have c86b0 : (t219 == (wrap64 (t220 + x18_78))) = true := beq_iff_eq.mpr c86
                                have c86b1 : (t219 != (wrap64 (t220 + x18_78))) = false := bne_eq_false_iff_eq.mpr c86
                                clear c86
                                have H' := a5_ H
                                clear H
                                try go_wp2
                                have n0_ := a5_ (Kd.V_drew HO_204001.out)
                                have n1_ := a5_ (Kd.V_drew HO_213001.out)
                                have n2_ := a5_ (blk_drew BK195.out)
                                have n3_ := a5_ (blk_drew BK203.out)
                                have n4_ := a5_ (blk_drew BK212.out)
                                have n5_ := a5_ (below_drew1 HB.out)
                                clear HO_204001
                                clear HO_213001
                                clear BK195
                                clear BK203
                                clear BK212
                                clear HB
                                have HO_204001 := n0_
                                have HO_213001 := n1_
                                have BK195 := n2_
                                have BK203 := n3_
                                have BK212 := n4_
                                have HB := n5_
                                clear n0_ n1_ n2_ n3_ n4_ n5_
                                refine start_ (n := 7) (S := fun w' => w'.cell? ⟨gb203, 0, none⟩ = some (.int .i64 t197) ∧ w'.cell? ⟨gb203, 1, none⟩ = some (.slice Ao20 t198.length co20) ∧ w'.cell? ⟨gb195, 0, none⟩ = some (.int .i64 a0_0) ∧ w'.cell? ⟨gb195, 1, none⟩ = some (.slice A0_1 l0_1.length c0_1)) (ds := []) #[false, false, false, false, false, false, false] (by kernel_rfl) rfl rfl ⟨(blk_cell BK203.out 0).trans rfl, (blk_cell BK203.out 1).trans rfl, (blk_cell BK195.out 0).trans rfl, (blk_cell BK195.out 1).trans rfl⟩ (fun hHeld => ?_)
                                generalize wc.drew = w87 at HO_204001 HO_213001 BK195 BK203 BK212 HB hHeld ⊢
                                refine pure_ (i := 4) (N := some 126) (v := ?_) (a' := ?_) #[false, false, false, false, true, false, false] rfl rfl (by kernel_rfl) (fun _ _ _ h => h) (Or.inl ⟨by rfl, ?_⟩) ?_ ?_
                                rotate_left
                                · intro w'
                                  go_simp
                                  with_reducible rfl
                                rotate_left
                                · simp only [Act.put, sT5_, sZ5_, sS5_, i64_w, i32_w]
                                  rfl
                                refine take_ (i := 0) (N := some 122) (v := ?_) (a' := ?_) #[true, false, false, false, true, false, false] rfl rfl (by kernel_rfl) (fun _ _ _ h => h) (Or.inl ⟨by rfl, ?_⟩) hHeld ?_ ?_
                                rotate_left
                                · rintro w' ⟨s0, s1, s2, s3⟩
                                  go_simp
                                  with_reducible rfl
                                rotate_left
                                · simp only [Act.put, sT5_, sZ5_, sS5_, i64_w, i32_w]
                                  rfl
                                refine take_ (i := 2) (N := some 124) (v := ?_) (a' := ?_) #[true, false, true, false, true, false, false] rfl rfl (by kernel_rfl) (fun _ _ _ h => h) (Or.inl ⟨by rfl, ?_⟩) hHeld ?_ ?_
                                rotate_left
                                · rintro w' ⟨s0, s1, s2, s3⟩
                                  go_simp
                                  with_reducible rfl
                                rotate_left
                                · simp only [Act.put, sT5_, sZ5_, sS5_, i64_w, i32_w]
                                  rfl
                                refine one_ (i := 1) (N := some 123) #[true, true, true, false, true, false, false] rfl rfl (by kernel_rfl) (by decide) (fun K hK => ?_)
                                refine goes_ Try.func16 (by kernel_rfl) rfl #[.agg #[.int .i64 t197, .slice Ao20 t198.length co20]] (by rfl) rfl rfl (by (try simp only [List.map_toArray, List.map_cons, List.map_nil]); first | done | rfl | (simp only [List.length_drop, List.length_take]; rfl)) ?_
                                with_reducible refine (blob_Size.calls kj78 t197 _ _ t198 t219 _ ?side1 ?side2 A84.out).mono ?_
                                (case side1 => repeat (first | exact (Kd.V_reads' HO_204001.out).2.2 | (with_reducible refine Kd.C_alloc ?_ _) | (with_reducible refine Kd.C_drewN ?_ _) | (with_reducible refine Kd.C_drew ?_)))
                                (case side2 => exact (Kd.V_reads' HO_204001.out).2.1)
                                rintro e w88 ⟨rfl, hb⟩
                                refine ⟨_, rfl, ?_⟩
                                have n0_ := a5_ (Kd.V_below (by (with_reducible repeat (first | apply Kd.V_alloc | apply Kd.V_drewN | apply Kd.V_drew)); exact HO_204001.out) hb)
                                have n1_ := a5_ (Kd.V_below (by (with_reducible repeat (first | apply Kd.V_alloc | apply Kd.V_drewN | apply Kd.V_drew)); exact HO_213001.out) hb)
                                have n2_ := a5_ (blk_below (g := gb195) (o := .cells #[.int .i64 a0_0, .slice A0_1 l0_1.length c0_1] 24 (0, 0)) (by (with_reducible repeat (first | refine blk_drewN ?_ _ | refine blk_drew ?_ | refine blk_alloc ?_ _)); exact BK195.out) hb)
                                have n3_ := a5_ (blk_below (g := gb203) (o := .cells #[.int .i64 t197, .slice Ao20 t198.length co20] 24 (0, 0)) (by (with_reducible repeat (first | refine blk_drewN ?_ _ | refine blk_drew ?_ | refine blk_alloc ?_ _)); exact BK203.out) hb)
                                have n4_ := a5_ (blk_below (g := gb212) (o := .cells #[.int .i64 t206, .slice Ao34 t207.length co34] 24 (0, 0)) (by (with_reducible repeat (first | refine blk_drewN ?_ _ | refine blk_drew ?_ | refine blk_alloc ?_ _)); exact BK212.out) hb)
                                have n5_ := a5_ (below_step (by repeat (first | (with_reducible first | exact HB.out | apply below_alloc | apply q5_ | apply below_drew1 | refine below_set ?_ GE195.out | refine below_set ?_ GE203.out | refine below_set ?_ GE212.out) | exact HB.out)) hb)
                                clear HO_204001
                                clear HO_213001
                                clear BK195
                                clear BK203
                                clear BK212
                                clear HB
                                have HO_204001 := n0_
                                have HO_213001 := n1_
                                have BK195 := n2_
                                have BK203 := n3_
                                have BK212 := n4_
                                have HB := n5_
                                clear n0_ n1_ n2_ n3_ n4_ n5_
                                (try clear hb)
                                (try clear hb2)
                                (try clear hk)
                                (try clear hi)
                                refine hK.out _ _ ⟨(blk_cell BK203.out 0).trans rfl, (blk_cell BK203.out 1).trans rfl, (blk_cell BK195.out 0).trans rfl, (blk_cell BK195.out 1).trans rfl⟩ (fun hHeld => ?_)
                                clear hK K
                                refine norm_ (a' := ?_) ?_ ?_
                                rotate_left
                                · show Act.put _ (some 123) _ = _
                                  simp only [Act.put, sT5_, sZ5_, sS5_, i64_w, i32_w]
                                  rfl
                                refine one_ (i := 3) (N := some 125) #[true, true, true, true, true, false, false] rfl rfl (by kernel_rfl) (by decide) (fun K hK => ?_)
                                refine goes_ Try.func16 (by kernel_rfl) rfl #[.agg #[.int .i64 a0_0, .slice A0_1 l0_1.length c0_1]] (by rfl) rfl rfl (by (try simp only [List.map_toArray, List.map_cons, List.map_nil]); first | done | rfl | (simp only [List.length_drop, List.length_take]; rfl)) ?_
                                with_reducible refine (blob_Size.calls kj78 a0_0 _ _ l0_1 t220 _ ?side1 ?side2 A85.out).mono ?_
                                (case side1 => repeat (first | exact (Kd.C_below HR0_1.out HB.out) | (with_reducible refine Kd.C_alloc ?_ _) | (with_reducible refine Kd.C_drewN ?_ _) | (with_reducible refine Kd.C_drew ?_)))
                                (case side2 => exact HC0_1.out)
                                rintro e w89 ⟨rfl, hb⟩
                                refine ⟨_, rfl, ?_⟩
                                have n0_ := a5_ (Kd.V_below (by (with_reducible repeat (first | apply Kd.V_alloc | apply Kd.V_drewN | apply Kd.V_drew)); exact HO_204001.out) hb)
                                have n1_ := a5_ (Kd.V_below (by (with_reducible repeat (first | apply Kd.V_alloc | apply Kd.V_drewN | apply Kd.V_drew)); exact HO_213001.out) hb)
                                have n2_ := a5_ (blk_below (g := gb195) (o := .cells #[.int .i64 a0_0, .slice A0_1 l0_1.length c0_1] 24 (0, 0)) (by (with_reducible repeat (first | refine blk_drewN ?_ _ | refine blk_drew ?_ | refine blk_alloc ?_ _)); exact BK195.out) hb)
                                have n3_ := a5_ (blk_below (g := gb203) (o := .cells #[.int .i64 t197, .slice Ao20 t198.length co20] 24 (0, 0)) (by (with_reducible repeat (first | refine blk_drewN ?_ _ | refine blk_drew ?_ | refine blk_alloc ?_ _)); exact BK203.out) hb)
                                have n4_ := a5_ (blk_below (g := gb212) (o := .cells #[.int .i64 t206, .slice Ao34 t207.length co34] 24 (0, 0)) (by (with_reducible repeat (first | refine blk_drewN ?_ _ | refine blk_drew ?_ | refine blk_alloc ?_ _)); exact BK212.out) hb)
                                have n5_ := a5_ (below_step (by repeat (first | (with_reducible first | exact HB.out | apply below_alloc | apply q5_ | apply below_drew1 | refine below_set ?_ GE195.out | refine below_set ?_ GE203.out | refine below_set ?_ GE212.out) | exact HB.out)) hb)
                                clear HO_204001
                                clear HO_213001
                                clear BK195
                                clear BK203
                                clear BK212
                                clear HB
                                have HO_204001 := n0_
                                have HO_213001 := n1_
                                have BK195 := n2_
                                have BK203 := n3_
                                have BK212 := n4_
                                have HB := n5_
                                clear n0_ n1_ n2_ n3_ n4_ n5_
                                (try clear hb)
                                (try clear hb2)
                                (try clear hk)
                                (try clear hi)
                                refine hK.out _ _ ⟨(blk_cell BK203.out 0).trans rfl, (blk_cell BK203.out 1).trans rfl, (blk_cell BK195.out 0).trans rfl, (blk_cell BK195.out 1).trans rfl⟩ (fun hHeld => ?_)
                                clear hK K
                                refine norm_ (a' := ?_) ?_ ?_
                                rotate_left
                                · show Act.put _ (some 125) _ = _
                                  simp only [Act.put, sT5_, sZ5_, sS5_, i64_w, i32_w]
                                  rfl
                                refine pure_ (i := 5) (N := some 127) (v := ?_) (a' := ?_) #[true, true, true, true, true, true, false] rfl rfl (by kernel_rfl) (fun _ _ _ h => h) (Or.inl ⟨by rfl, ?_⟩) ?_ ?_
                                rotate_left
                                · intro w'
                                  go_simp
                                  with_reducible rfl
                                rotate_left
                                · simp only [Act.put, sT5_, sZ5_, sS5_, i64_w, i32_w]
                                  rfl
                                refine pure_ (i := 6) (N := some 128) (v := ?_) (a' := ?_) #[true, true, true, true, true, true, true] rfl rfl (by kernel_rfl) (fun _ _ _ h => h) (Or.inl ⟨by rfl, ?_⟩) ?_ ?_
                                rotate_left
                                · intro w'
                                  go_simp
                                  with_reducible rfl
                                rotate_left
                                · simp only [Act.put, sT5_, sZ5_, sS5_, i64_w, i32_w]
                                  rfl
                                refine done_ (by kernel_rfl) ?_
                                try go_wp2
                                go_meet
                                case rel => exact ⟨_, H', ⟨by have := HJ5.out; have := HJ23.out; have := HK3.out; have := HJ78.out; first | omega | exact Nat.le_refl _⟩, ⟨by (with_reducible repeat (first | apply Kd.V_alloc | apply Kd.V_drewN | apply Kd.V_drew)); exact Kd.V_mono HO_204001.out (fun _ hk => ⟨hk.1, hk.2.1⟩)⟩, ⟨by (with_reducible repeat (first | refine blk_drewN ?_ _ | refine blk_drew ?_ | refine blk_alloc ?_ _)); exact BK195.out⟩, ⟨by (with_reducible repeat (first | refine blk_drewN ?_ _ | refine blk_drew ?_ | refine blk_alloc ?_ _)); exact BK203.out⟩, ⟨by repeat (first | (with_reducible first | exact HB.out | apply below_alloc | apply q5_ | apply below_drew1 | refine below_set ?_ GE195.out | refine below_set ?_ GE203.out | refine below_set ?_ GE212.out) | exact HB.out)⟩⟩
                              · rw [if_neg c86] at H
                                have c86b0 : (t219 == (wrap64 (t220 + x18_78))) = false := beq_eq_false_iff_ne.mpr c86
                                have c86b1 : (t219 != (wrap64 (t220 + x18_78))) = true := bne_iff_ne.mpr c86
                                obtain rfl := Option.some.inj H
                                try go_wp2
                                have n0_ := a5_ (Kd.V_drew HO_204001.out)
                                have n1_ := a5_ (Kd.V_drew HO_213001.out)
                                have n2_ := a5_ (blk_drew BK195.out)
                                have n3_ := a5_ (blk_drew BK203.out)
                                have n4_ := a5_ (blk_drew BK212.out)
                                have n5_ := a5_ (below_drew1 HB.out)
                                clear HO_204001
                                clear HO_213001
                                clear BK195
                                clear BK203
                                clear BK212
                                clear HB
                                have HO_204001 := n0_
                                have HO_213001 := n1_
                                have BK195 := n2_
                                have BK203 := n3_
                                have BK212 := n4_
                                have HB := n5_
                                clear n0_ n1_ n2_ n3_ n4_ n5_
                                refine start_ (n := 7) (S := fun w' => w'.cell? ⟨gb203, 0, none⟩ = some (.int .i64 t197) ∧ w'.cell? ⟨gb203, 1, none⟩ = some (.slice Ao20 t198.length co20) ∧ w'.cell? ⟨gb195, 0, none⟩ = some (.int .i64 a0_0) ∧ w'.cell? ⟨gb195, 1, none⟩ = some (.slice A0_1 l0_1.length c0_1)) (ds := []) #[false, false, false, false, false, false, false] (by kernel_rfl) rfl rfl ⟨(blk_cell BK203.out 0).trans rfl, (blk_cell BK203.out 1).trans rfl, (blk_cell BK195.out 0).trans rfl, (blk_cell BK195.out 1).trans rfl⟩ (fun hHeld => ?_)
                                generalize wc.drew = w90 at HO_204001 HO_213001 BK195 BK203 BK212 HB hHeld ⊢
                                refine pure_ (i := 4) (N := some 126) (v := ?_) (a' := ?_) #[false, false, false, false, true, false, false] rfl rfl (by kernel_rfl) (fun _ _ _ h => h) (Or.inl ⟨by rfl, ?_⟩) ?_ ?_
                                rotate_left
                                · intro w'
                                  go_simp
                                  with_reducible rfl
                                rotate_left
                                · simp only [Act.put, sT5_, sZ5_, sS5_, i64_w, i32_w]
                                  rfl
                                refine take_ (i := 0) (N := some 122) (v := ?_) (a' := ?_) #[true, false, false, false, true, false, false] rfl rfl (by kernel_rfl) (fun _ _ _ h => h) (Or.inl ⟨by rfl, ?_⟩) hHeld ?_ ?_
                                rotate_left
                                · rintro w' ⟨s0, s1, s2, s3⟩
                                  go_simp
                                  with_reducible rfl
                                rotate_left
                                · simp only [Act.put, sT5_, sZ5_, sS5_, i64_w, i32_w]
                                  rfl
                                refine take_ (i := 2) (N := some 124) (v := ?_) (a' := ?_) #[true, false, true, false, true, false, false] rfl rfl (by kernel_rfl) (fun _ _ _ h => h) (Or.inl ⟨by rfl, ?_⟩) hHeld ?_ ?_
                                rotate_left
                                · rintro w' ⟨s0, s1, s2, s3⟩
                                  go_simp
                                  with_reducible rfl
                                rotate_left
                                · simp only [Act.put, sT5_, sZ5_, sS5_, i64_w, i32_w]
                                  rfl
                                refine one_ (i := 1) (N := some 123) #[true, true, true, false, true, false, false] rfl rfl (by kernel_rfl) (by decide) (fun K hK => ?_)
                                refine goes_ Try.func16 (by kernel_rfl) rfl #[.agg #[.int .i64 t197, .slice Ao20 t198.length co20]] (by rfl) rfl rfl (by (try simp only [List.map_toArray, List.map_cons, List.map_nil]); first | done | rfl | (simp only [List.length_drop, List.length_take]; rfl)) ?_
                                with_reducible refine (blob_Size.calls kj78 t197 _ _ t198 t219 _ ?side1 ?side2 A84.out).mono ?_
                                (case side1 => repeat (first | exact (Kd.V_reads' HO_204001.out).2.2 | (with_reducible refine Kd.C_alloc ?_ _) | (with_reducible refine Kd.C_drewN ?_ _) | (with_reducible refine Kd.C_drew ?_)))
                                (case side2 => exact (Kd.V_reads' HO_204001.out).2.1)
                                rintro e w91 ⟨rfl, hb⟩
                                refine ⟨_, rfl, ?_⟩
                                have n0_ := a5_ (Kd.V_below (by (with_reducible repeat (first | apply Kd.V_alloc | apply Kd.V_drewN | apply Kd.V_drew)); exact HO_204001.out) hb)
                                have n1_ := a5_ (Kd.V_below (by (with_reducible repeat (first | apply Kd.V_alloc | apply Kd.V_drewN | apply Kd.V_drew)); exact HO_213001.out) hb)
                                have n2_ := a5_ (blk_below (g := gb195) (o := .cells #[.int .i64 a0_0, .slice A0_1 l0_1.length c0_1] 24 (0, 0)) (by (with_reducible repeat (first | refine blk_drewN ?_ _ | refine blk_drew ?_ | refine blk_alloc ?_ _)); exact BK195.out) hb)
                                have n3_ := a5_ (blk_below (g := gb203) (o := .cells #[.int .i64 t197, .slice Ao20 t198.length co20] 24 (0, 0)) (by (with_reducible repeat (first | refine blk_drewN ?_ _ | refine blk_drew ?_ | refine blk_alloc ?_ _)); exact BK203.out) hb)
                                have n4_ := a5_ (blk_below (g := gb212) (o := .cells #[.int .i64 t206, .slice Ao34 t207.length co34] 24 (0, 0)) (by (with_reducible repeat (first | refine blk_drewN ?_ _ | refine blk_drew ?_ | refine blk_alloc ?_ _)); exact BK212.out) hb)
                                have n5_ := a5_ (below_step (by repeat (first | (with_reducible first | exact HB.out | apply below_alloc | apply q5_ | apply below_drew1 | refine below_set ?_ GE195.out | refine below_set ?_ GE203.out | refine below_set ?_ GE212.out) | exact HB.out)) hb)
                                clear HO_204001
                                clear HO_213001
                                clear BK195
                                clear BK203
                                clear BK212
                                clear HB
                                have HO_204001 := n0_
                                have HO_213001 := n1_
                                have BK195 := n2_
                                have BK203 := n3_
                                have BK212 := n4_
                                have HB := n5_
                                clear n0_ n1_ n2_ n3_ n4_ n5_
                                (try clear hb)
                                (try clear hb2)
                                (try clear hk)
                                (try clear hi)
                                refine hK.out _ _ ⟨(blk_cell BK203.out 0).trans rfl, (blk_cell BK203.out 1).trans rfl, (blk_cell BK195.out 0).trans rfl, (blk_cell BK195.out 1).trans rfl⟩ (fun hHeld => ?_)
                                clear hK K
                                refine norm_ (a' := ?_) ?_ ?_
                                rotate_left
                                · show Act.put _ (some 123) _ = _
                                  simp only [Act.put, sT5_, sZ5_, sS5_, i64_w, i32_w]
                                  rfl
                                refine one_ (i := 3) (N := some 125) #[true, true, true, true, true, false, false] rfl rfl (by kernel_rfl) (by decide) (fun K hK => ?_)
                                refine goes_ Try.func16 (by kernel_rfl) rfl #[.agg #[.int .i64 a0_0, .slice A0_1 l0_1.length c0_1]] (by rfl) rfl rfl (by (try simp only [List.map_toArray, List.map_cons, List.map_nil]); first | done | rfl | (simp only [List.length_drop, List.length_take]; rfl)) ?_
                                with_reducible refine (blob_Size.calls kj78 a0_0 _ _ l0_1 t220 _ ?side1 ?side2 A85.out).mono ?_
                                (case side1 => repeat (first | exact (Kd.C_below HR0_1.out HB.out) | (with_reducible refine Kd.C_alloc ?_ _) | (with_reducible refine Kd.C_drewN ?_ _) | (with_reducible refine Kd.C_drew ?_)))
                                (case side2 => exact HC0_1.out)
                                rintro e w92 ⟨rfl, hb⟩
                                refine ⟨_, rfl, ?_⟩
                                have n0_ := a5_ (Kd.V_below (by (with_reducible repeat (first | apply Kd.V_alloc | apply Kd.V_drewN | apply Kd.V_drew)); exact HO_204001.out) hb)
                                have n1_ := a5_ (Kd.V_below (by (with_reducible repeat (first | apply Kd.V_alloc | apply Kd.V_drewN | apply Kd.V_drew)); exact HO_213001.out) hb)
                                have n2_ := a5_ (blk_below (g := gb195) (o := .cells #[.int .i64 a0_0, .slice A0_1 l0_1.length c0_1] 24 (0, 0)) (by (with_reducible repeat (first | refine blk_drewN ?_ _ | refine blk_drew ?_ | refine blk_alloc ?_ _)); exact BK195.out) hb)
                                have n3_ := a5_ (blk_below (g := gb203) (o := .cells #[.int .i64 t197, .slice Ao20 t198.length co20] 24 (0, 0)) (by (with_reducible repeat (first | refine blk_drewN ?_ _ | refine blk_drew ?_ | refine blk_alloc ?_ _)); exact BK203.out) hb)
                                have n4_ := a5_ (blk_below (g := gb212) (o := .cells #[.int .i64 t206, .slice Ao34 t207.length co34] 24 (0, 0)) (by (with_reducible repeat (first | refine blk_drewN ?_ _ | refine blk_drew ?_ | refine blk_alloc ?_ _)); exact BK212.out) hb)
                                have n5_ := a5_ (below_step (by repeat (first | (with_reducible first | exact HB.out | apply below_alloc | apply q5_ | apply below_drew1 | refine below_set ?_ GE195.out | refine below_set ?_ GE203.out | refine below_set ?_ GE212.out) | exact HB.out)) hb)
                                clear HO_204001
                                clear HO_213001
                                clear BK195
                                clear BK203
                                clear BK212
                                clear HB
                                have HO_204001 := n0_
                                have HO_213001 := n1_
                                have BK195 := n2_
                                have BK203 := n3_
                                have BK212 := n4_
                                have HB := n5_
                                clear n0_ n1_ n2_ n3_ n4_ n5_
                                (try clear hb)
                                (try clear hb2)
                                (try clear hk)
                                (try clear hi)
                                refine hK.out _ _ ⟨(blk_cell BK203.out 0).trans rfl, (blk_cell BK203.out 1).trans rfl, (blk_cell BK195.out 0).trans rfl, (blk_cell BK195.out 1).trans rfl⟩ (fun hHeld => ?_)
                                clear hK K
                                refine norm_ (a' := ?_) ?_ ?_
                                rotate_left
                                · show Act.put _ (some 125) _ = _
                                  simp only [Act.put, sT5_, sZ5_, sS5_, i64_w, i32_w]
                                  rfl
                                refine pure_ (i := 5) (N := some 127) (v := ?_) (a' := ?_) #[true, true, true, true, true, true, false] rfl rfl (by kernel_rfl) (fun _ _ _ h => h) (Or.inl ⟨by rfl, ?_⟩) ?_ ?_
                                rotate_left
                                · intro w'
                                  go_simp
                                  with_reducible rfl
                                rotate_left
                                · simp only [Act.put, sT5_, sZ5_, sS5_, i64_w, i32_w]
                                  rfl
                                refine pure_ (i := 6) (N := some 128) (v := ?_) (a' := ?_) #[true, true, true, true, true, true, true] rfl rfl (by kernel_rfl) (fun _ _ _ h => h) (Or.inl ⟨by rfl, ?_⟩) ?_ ?_
                                rotate_left
                                · intro w'
                                  go_simp
                                  with_reducible rfl
                                rotate_left
                                · simp only [Act.put, sT5_, sZ5_, sS5_, i64_w, i32_w]
                                  rfl
                                refine done_ (by kernel_rfl) ?_
                                try go_wp2
                                go_ret
                                exact ⟨by first | rfl | (simp [errW_none, errW_some] <;> rfl) | (simp [*, errW_none, errW_some] <;> rfl), by repeat (first | (with_reducible first | exact HB.out | apply below_alloc | apply q5_ | apply below_drew1 | refine below_set ?_ GE195.out | refine below_set ?_ GE203.out | refine below_set ?_ GE212.out) | exact HB.out)⟩
            · rw [if_neg c21] at H
              have c21b0 : (t202 == 0) = false := beq_eq_false_iff_ne.mpr c21
              have c21b1 : (t202 != 0) = true := bne_iff_ne.mpr c21
              (first | rw [c21b0] | (simp only [i64_w, i32_w]; rw [c21b0]) | skip)
              have H' := a5_ H
              clear H
              go_wp2
              go_meet
              case rel => exact ⟨_, H', ⟨by have := HJ5.out; first | omega | exact Nat.le_refl _⟩, ⟨by (with_reducible repeat (first | apply Kd.V_alloc | apply Kd.V_drewN | apply Kd.V_drew)); exact Kd.V_mono (Kd.V_far (p := ⟨gb203, 1, none⟩) (Kd.V_far (p := ⟨gb203, 0, none⟩) (Kd.V_mono HO200.out (fun k_ hk => (⟨hk, hk.2⟩ : _ ∧ k_ ≠ gb203))) (fun _ hk => hk.2) (.int .i64 t197)) (fun _ hk => hk.2) (.slice Ao20 t198.length co20)) (fun _ hk => ⟨hk.1.1, hk.1.2⟩)⟩, ⟨by (with_reducible repeat (first | refine blk_drewN ?_ _ | refine blk_drew ?_ | refine blk_alloc ?_ _)); refine blk_far ?_ NB195_203.out _; (with_reducible repeat (first | refine blk_drewN ?_ _ | refine blk_drew ?_ | refine blk_alloc ?_ _)); refine blk_far ?_ NB195_203.out _; (with_reducible repeat (first | refine blk_drewN ?_ _ | refine blk_drew ?_ | refine blk_alloc ?_ _)); exact BK195.out⟩, ⟨by (with_reducible repeat (first | refine blk_drewN ?_ _ | refine blk_drew ?_ | refine blk_alloc ?_ _)); refine blk_put (cs := #[.int .i64 t197, .slice none 0 0]) ?_ 1 _ rfl; (with_reducible repeat (first | refine blk_drewN ?_ _ | refine blk_drew ?_ | refine blk_alloc ?_ _)); refine blk_put (cs := #[.int .i64 0, .slice none 0 0]) ?_ 0 _ rfl; (with_reducible repeat (first | refine blk_drewN ?_ _ | refine blk_drew ?_ | refine blk_alloc ?_ _)); exact BK203.out⟩, ⟨by repeat (first | (with_reducible first | exact HB.out | apply below_alloc | apply q5_ | apply below_drew1 | refine below_set ?_ GE195.out | refine below_set ?_ GE203.out) | exact HB.out)⟩⟩
          case rest => as_aux_lemma =>
            clear HC14
            try clear c1
            try clear c2
            try clear p2
            try clear q2
            try clear hx2
            try clear c5
            try clear c6
            try clear p6
            try clear c7
            try clear c8
            try clear c15
            try clear c16
            try clear c21
            try clear c21b0
            try clear c21b1
            try clear p21
            try clear q21
            try clear hx21
            try clear c57
            try clear c57b0
            try clear c58
            try clear c60
            try clear c61
            try clear c61b0
            try clear c61b1
            try clear p64
            try clear c68
            try clear c69
            try clear c74
            try clear c75
            try clear c80
            try clear c81
            try clear c83
            try clear c83b0
            try clear c83b1
            try clear c86
            try clear c86b0
            try clear c86b1
            try clear hcz67_0
            try clear hcz67_1
            try clear hcz70_0
            try clear hcz70_1
            try clear hcz73_0
            try clear hcz73_1
            try clear hcz76_0
            try clear hcz76_1
            try clear hcz82_0
            try clear hcz82_1
            try clear hfz67_0
            try clear hfz67_1
            try clear hfz70_0
            try clear hfz70_1
            try clear hfz73_0
            try clear hfz73_1
            try clear hfz76_0
            try clear hfz76_1
            try clear hfz82_0
            try clear hfz82_1
            try clear hx215_0
            try clear hx215_1
            try clear hx218_0
            try clear hx218_1
            try clear p2
            try clear p21
            try clear p215
            try clear p218
            try clear p6
            try clear p64
            try clear q2
            try clear q21
            try clear q215
            try clear q218
            obtain ⟨kq, HA, HJ13, HO_204001, BK195, BK203, HB⟩ := hcut
            cases kq with
            | zero => exact absurd HA.out (by simp [codesearchlaw24_BlobShares.j4])
            | succ kj13 =>
              have H := HA.out
              clear HA
              simp only [codesearchlaw24_BlobShares.j4] at H
              replace H := Option.bind_eq_some_iff.mp H
              obtain ⟨⟨t221, t222⟩, A930, H⟩ := H
              replace H : (codesearchlaw24_BlobShares.l1 kj13 l2 0 a0_0 l0_1 t221 t222) = some r := H
              have A93 := a5_ A930
              clear A930
              have H' := a5_ H
              clear H
              have hnb94 := NB195_203.out
              have hnc94 := NB203_195.out
              have hcz95_0 : wc.cell? ⟨gb195, 0, none⟩ = some (.int .i64 a0_0) := (blk_cell BK195.out 0).trans rfl
              have hcz95_1 : wc.cell? ⟨gb195, 1, none⟩ = some (.slice A0_1 l0_1.length c0_1) := (blk_cell BK195.out 1).trans rfl
              have hfz95_0 := blk_frozen BK195.out 0
              have hfz95_1 := blk_frozen BK195.out 1
              go_wp2_with (first | ((with_reducible refine gate_callee (f := 14) rfl ?_); refine goesL_ (some 131) rfl rfl Try.func14 (by kernel_rfl) rfl #[.agg #[.int .i64 a0_0, .slice A0_1 l0_1.length c0_1], .slice A2 l2.length c2] rfl (by (try simp only [List.map_toArray, List.map_cons, List.map_nil]); first | done | rfl | (simp only [List.length_drop, List.length_take]; rfl)) ?_; (with_reducible refine (blob_Keep.calls kj13 a0_0 _ _ l0_1 _ _ l2 t221 t222 _ ?side1 ?side2 ?side3 ?side4 A93.out).mono ?_); (case side1 => repeat (first | exact (Kd.C_below HR0_1.out HB.out) | (with_reducible refine Kd.C_alloc ?_ _) | (with_reducible refine Kd.C_drewN ?_ _) | (with_reducible refine Kd.C_drew ?_))); (case side2 => exact HC0_1.out); (case side3 => repeat (first | exact (Kd.C_below HR2.out HB.out) | (with_reducible refine Kd.C_alloc ?_ _) | (with_reducible refine Kd.C_drewN ?_ _) | (with_reducible refine Kd.C_drew ?_))); (case side4 => exact HC2.out); rintro e w96 ⟨v223, rfl, ho0, hb⟩; refine ⟨_, rfl, ?_⟩; have n0_ := a5_ (Kd.V_elder' (by (with_reducible repeat (first | apply Kd.V_alloc | apply Kd.V_drewN | apply Kd.V_drew)); exact HO_204001.out) (Kd.R_base ho0) hb); have n1_ := a5_ (Kd.R_lower ho0 (below_size (by repeat (first | (with_reducible first | exact HB.out | apply below_alloc | apply q5_ | apply below_drew1 | refine below_set ?_ GE195.out | refine below_set ?_ GE203.out) | exact HB.out)))); have n2_ := a5_ (blk_below (g := gb195) (o := .cells #[.int .i64 a0_0, .slice A0_1 l0_1.length c0_1] 24 (0, 0)) (by (with_reducible repeat (first | refine blk_drewN ?_ _ | refine blk_drew ?_ | refine blk_alloc ?_ _)); exact BK195.out) hb); have n3_ := a5_ (blk_below (g := gb203) (o := .cells #[.int .i64 t197, .slice Ao20 t198.length co20] 24 (0, 0)) (by (with_reducible repeat (first | refine blk_drewN ?_ _ | refine blk_drew ?_ | refine blk_alloc ?_ _)); exact BK203.out) hb); have n4_ := a5_ (below_step (by repeat (first | (with_reducible first | exact HB.out | apply below_alloc | apply q5_ | apply below_drew1 | refine below_set ?_ GE195.out | refine below_set ?_ GE203.out) | exact HB.out)) hb); clear HO_204001; clear BK195; clear BK203; clear HB; have HO_204001 := n0_; have HO224 := n1_; have BK195 := n2_; have BK203 := n3_; have HB := n4_; clear n0_ n1_ n2_ n3_ n4_; (try clear hb); (try clear hb2); (try clear hk); (try clear hi); (try clear ho0)) | ((with_reducible refine gate_dst (N := 19) rfl ?_); (try (refine gate_guard (by rfl) ?_; dsimp only)); refine box_event ?hg (N := 19) ?hd (cs := #[.int .i64 0, .slice none 0 0]) (t := 24) ?hr ?_; (case hd => rfl); (case hg => rfl); (case hr => first | (go_simp; done) | (go_simp; rfl)); intro gb225 hg w97 hbox hb; have n0_ := a5_ (Kd.V_below (Kd.V_elderB (by (with_reducible repeat (first | apply Kd.V_alloc | apply Kd.V_drewN | apply Kd.V_drew)); exact HO_204001.out) gb225 (Nat.le_of_eq hg.symm)) hb); have n1_ := a5_ (Kd.R_below (by (with_reducible repeat (first | apply Kd.R_alloc | apply Kd.R_drewN | apply Kd.R_drew)); exact HO224.out) hb); have n2_ := a5_ (blk_below (g := gb195) (o := .cells #[.int .i64 a0_0, .slice A0_1 l0_1.length c0_1] 24 (0, 0)) (by (with_reducible repeat (first | refine blk_drewN ?_ _ | refine blk_drew ?_ | refine blk_alloc ?_ _)); exact BK195.out) hb); have n3_ := a5_ (blk_below (g := gb203) (o := .cells #[.int .i64 t197, .slice Ao20 t198.length co20] 24 (0, 0)) (by (with_reducible repeat (first | refine blk_drewN ?_ _ | refine blk_drew ?_ | refine blk_alloc ?_ _)); exact BK203.out) hb); have n4_ := a5_ (below_step (by repeat (first | (with_reducible first | exact HB.out | apply below_alloc | apply q5_ | apply below_drew1 | refine below_set ?_ GE195.out | refine below_set ?_ GE203.out) | exact HB.out)) hb); have n5_ := a5_ (hbox); have n6_ := a5_ ((by rw [hg]; exact (below_size (by repeat (first | (with_reducible first | exact HB.out | apply below_alloc | apply q5_ | apply below_drew1 | refine below_set ?_ GE195.out | refine below_set ?_ GE203.out) | exact HB.out))) : w.heap.size ≤ gb225)); have n7_ := a5_ ((by rw [hg]; exact (below_size (by repeat (first | (with_reducible first | exact HB.out | apply below_alloc | apply q5_ | apply below_drew1 | refine below_set ?_ GE195.out | refine below_set ?_ GE203.out) | exact HB.out))) : w.heap.size ≤ gb225)); have n8_ := a5_ ((by rw [hg]; exact Nat.ne_of_lt (blk_lt (g := gb195) (o := .cells #[.int .i64 a0_0, .slice A0_1 l0_1.length c0_1] 24 (0, 0)) (by (with_reducible repeat (first | refine blk_drewN ?_ _ | refine blk_drew ?_ | refine blk_alloc ?_ _)); exact BK195.out)) : gb195 ≠ gb225)); have n9_ := a5_ ((by rw [hg]; exact Nat.ne_of_gt (blk_lt (g := gb195) (o := .cells #[.int .i64 a0_0, .slice A0_1 l0_1.length c0_1] 24 (0, 0)) (by (with_reducible repeat (first | refine blk_drewN ?_ _ | refine blk_drew ?_ | refine blk_alloc ?_ _)); exact BK195.out)) : gb225 ≠ gb195)); have n10_ := a5_ ((by rw [hg]; exact Nat.ne_of_lt (blk_lt (g := gb203) (o := .cells #[.int .i64 t197, .slice Ao20 t198.length co20] 24 (0, 0)) (by (with_reducible repeat (first | refine blk_drewN ?_ _ | refine blk_drew ?_ | refine blk_alloc ?_ _)); exact BK203.out)) : gb203 ≠ gb225)); have n11_ := a5_ ((by rw [hg]; exact Nat.ne_of_gt (blk_lt (g := gb203) (o := .cells #[.int .i64 t197, .slice Ao20 t198.length co20] 24 (0, 0)) (by (with_reducible repeat (first | refine blk_drewN ?_ _ | refine blk_drew ?_ | refine blk_alloc ?_ _)); exact BK203.out)) : gb225 ≠ gb203)); clear HO_204001; clear HO224; clear BK195; clear BK203; clear HB; have HO_204001 := n0_; have HO224 := n1_; have BK195 := n2_; have BK203 := n3_; have HB := n4_; have BK225 := n5_; have GW225 := n6_; have GE225 := n7_; have NB195_225 := n8_; have NB225_195 := n9_; have NB203_225 := n10_; have NB225_203 := n11_; clear n0_ n1_ n2_ n3_ n4_ n5_ n6_ n7_ n8_ n9_ n10_ n11_; clear hb hbox hg; have hnb98 := NB225_195.out; have hnc98 := NB195_225.out; have hnb99 := NB225_203.out; have hnc99 := NB203_225.out; have hcz100_0 : w97.cell? ⟨gb225, 0, none⟩ = some (.int .i64 0) := (blk_cell BK225.out 0).trans rfl; have hcz100_1 : w97.cell? ⟨gb225, 1, none⟩ = some (.slice none 0 0) := (blk_cell BK225.out 1).trans rfl; have hfz100_0 := blk_frozen BK225.out 0; have hfz100_1 := blk_frozen BK225.out 1; obtain ⟨Ao101, co101, eo101⟩ := Kd.R_slice HO224.out; subst eo101))
              go_loopg [20] kj13 (fun kq v20 w' => ∃ (x20_3 : Int), v20 = .int .i64 x20_3 ∧ Aside0 (codesearchlaw24_BlobShares.l1 kq l2 x20_3 a0_0 l0_1 t221 t222 = some r) ∧ Aside0 (kq ≤ kj13) ∧ Aside0 (Kd.V k39 39 w' w.heap.size (fun k_ => some k_ ≠ ((.slice Ao101 t222.length co101) : Value).ownBlock ∧ k_ ≠ gb195 ∧ k_ ≠ gb203 ∧ k_ ≠ gb225) (.slice Ao20 t198.length co20) t198) ∧ Aside0 (Kd.R k39 39 w' w.heap.size (fun _ => True) (.slice Ao101 t222.length co101) t222) ∧ Aside0 (w'.heap[gb195]? = some (.cells #[.int .i64 a0_0, (.slice A0_1 l0_1.length c0_1)] 24 (0, 0))) ∧ Aside0 (w'.heap[gb203]? = some (.cells #[.int .i64 t197, (.slice Ao20 t198.length co20)] 24 (0, 0))) ∧ Aside0 (w'.heap[gb225]? = some (.cells #[.int .i64 t221, (.slice Ao101 t222.length co101)] 24 (0, 0))) ∧ Aside0 (Below w.heap.size w w'))
              case atStart => exact ⟨(0), (by first | rfl | (simp; done) | (simp [*]; done)), H', ⟨Nat.le_refl _⟩, ⟨by (with_reducible repeat (first | apply Kd.V_alloc | apply Kd.V_drewN | apply Kd.V_drew)); exact Kd.V_mono (Kd.V_far (p := ⟨gb225, 1, none⟩) (Kd.V_far (p := ⟨gb225, 0, none⟩) (Kd.V_mono HO_204001.out (fun k_ hk => (⟨hk, hk.2⟩ : _ ∧ k_ ≠ gb225))) (fun _ hk => hk.2) (.int .i64 t221)) (fun _ hk => hk.2) (.slice Ao101 t222.length co101)) (fun _ hk => ⟨hk.1.1.2, ⟨hk.1.1.1.1, ⟨hk.1.1.1.2, hk.1.2⟩⟩⟩)⟩, ⟨by (with_reducible repeat (first | apply Kd.R_alloc | apply Kd.R_drewN | apply Kd.R_drew)); exact Kd.R_mono (Kd.R_far (p := ⟨gb225, 1, none⟩) (Kd.R_far (p := ⟨gb225, 0, none⟩) (Kd.R_types HO224.out BK225.out (by decide)) (fun _ hk => hk.2) (.int .i64 t221)) (fun _ hk => hk.2) (.slice Ao101 t222.length co101)) (fun _ hk => trivial)⟩, ⟨by (with_reducible repeat (first | refine blk_drewN ?_ _ | refine blk_drew ?_ | refine blk_alloc ?_ _)); refine blk_far ?_ NB195_225.out _; (with_reducible repeat (first | refine blk_drewN ?_ _ | refine blk_drew ?_ | refine blk_alloc ?_ _)); refine blk_far ?_ NB195_225.out _; (with_reducible repeat (first | refine blk_drewN ?_ _ | refine blk_drew ?_ | refine blk_alloc ?_ _)); exact BK195.out⟩, ⟨by (with_reducible repeat (first | refine blk_drewN ?_ _ | refine blk_drew ?_ | refine blk_alloc ?_ _)); refine blk_far ?_ NB203_225.out _; (with_reducible repeat (first | refine blk_drewN ?_ _ | refine blk_drew ?_ | refine blk_alloc ?_ _)); refine blk_far ?_ NB203_225.out _; (with_reducible repeat (first | refine blk_drewN ?_ _ | refine blk_drew ?_ | refine blk_alloc ?_ _)); exact BK203.out⟩, ⟨by (with_reducible repeat (first | refine blk_drewN ?_ _ | refine blk_drew ?_ | refine blk_alloc ?_ _)); refine blk_put (cs := #[.int .i64 t221, .slice none 0 0]) ?_ 1 _ rfl; (with_reducible repeat (first | refine blk_drewN ?_ _ | refine blk_drew ?_ | refine blk_alloc ?_ _)); refine blk_put (cs := #[.int .i64 0, .slice none 0 0]) ?_ 0 _ rfl; (with_reducible repeat (first | refine blk_drewN ?_ _ | refine blk_drew ?_ | refine blk_alloc ?_ _)); exact BK225.out⟩, ⟨by repeat (first | (with_reducible first | exact HB.out | apply below_alloc | apply q5_ | apply below_drew1 | refine below_set ?_ GE195.out | refine below_set ?_ GE203.out | refine below_set ?_ GE225.out) | exact HB.out)⟩⟩
              case round => as_aux_lemma =>
                clear H'
                try clear c1
                try clear c2
                try clear p2
                try clear q2
                try clear hx2
                try clear c5
                try clear c6
                try clear p6
                try clear c7
                try clear c8
                try clear c9
                try clear c14
                try clear c15
                try clear c16
                try clear c21
                try clear c21b0
                try clear c21b1
                try clear p21
                try clear q21
                try clear hx21
                try clear c57
                try clear c57b0
                try clear c58
                try clear c60
                try clear c61
                try clear c61b0
                try clear c61b1
                try clear p64
                try clear c68
                try clear c69
                try clear c74
                try clear c75
                try clear c80
                try clear c81
                try clear c83
                try clear c83b0
                try clear c83b1
                try clear c86
                try clear c86b0
                try clear c86b1
                try clear c94
                try clear c98
                try clear c99
                try clear hcz100_0
                try clear hcz100_1
                try clear hcz67_0
                try clear hcz67_1
                try clear hcz70_0
                try clear hcz70_1
                try clear hcz73_0
                try clear hcz73_1
                try clear hcz76_0
                try clear hcz76_1
                try clear hcz82_0
                try clear hcz82_1
                try clear hcz95_0
                try clear hcz95_1
                try clear hfz100_0
                try clear hfz100_1
                try clear hfz67_0
                try clear hfz67_1
                try clear hfz70_0
                try clear hfz70_1
                try clear hfz73_0
                try clear hfz73_1
                try clear hfz76_0
                try clear hfz76_1
                try clear hfz82_0
                try clear hfz82_1
                try clear hfz95_0
                try clear hfz95_1
                try clear hx215_0
                try clear hx215_1
                try clear hx218_0
                try clear hx218_1
                try clear p2
                try clear p21
                try clear p215
                try clear p218
                try clear p6
                try clear p64
                try clear q2
                try clear q21
                try clear q215
                try clear q218
                obtain ⟨x20_3, rfl, HA, HK3, HO_204001, HO_226001, BK195, BK203, BK225, HB⟩ := hrel
                cases gk with
                | zero => exact absurd HA.out (by simp [codesearchlaw24_BlobShares.l1])
                | succ k3 =>
                  have H := HA.out
                  clear HA
                  simp only [codesearchlaw24_BlobShares.l1] at H
                  by_cases c102 : x20_3 < (l0_1.length : Int)
                  · rw [if_pos c102] at H
                    have c102b0 : decide (x20_3 < (l0_1.length : Int)) = true := decide_eq_true c102
                    clear c102
                    by_cases c103 : 0 ≤ x20_3
                    · rw [if_pos c103] at H
                      have c103b0 : decide (0 ≤ x20_3) = true := decide_eq_true c103
                      clear c103
                      replace H := Option.bind_eq_some_iff.mp H
                      obtain ⟨⟨t229, t230⟩, A1040, H⟩ := H
                      replace H : ((blob_Get.f k3 t221 t222 ((rd_T39 l0_1 x20_3).f0)).bind fun bt231 => ((codesearchlaw24_has.f k3 l2 ((rd_T39 l0_1 x20_3).f0)).bind fun t233 => (if t233 = true then (if (t230 != bt231.2) = true then (some false) else (if t229.toList = bt231.1.toList then ((codesearchlaw24_has.f k3 l2 ((rd_T39 l0_1 x20_3).f0)).bind fun t234 => (if t234 = true then (codesearchlaw24_BlobShares.l1 k3 l2 (wrap64 (x20_3 + 1)) a0_0 l0_1 t221 t222) else (if bt231.2 = true then (some false) else (codesearchlaw24_BlobShares.l1 k3 l2 (wrap64 (x20_3 + 1)) a0_0 l0_1 t221 t222)))) else (some false))) else ((codesearchlaw24_has.f k3 l2 ((rd_T39 l0_1 x20_3).f0)).bind fun t235 => (if t235 = true then (codesearchlaw24_BlobShares.l1 k3 l2 (wrap64 (x20_3 + 1)) a0_0 l0_1 t221 t222) else (if bt231.2 = true then (some false) else (codesearchlaw24_BlobShares.l1 k3 l2 (wrap64 (x20_3 + 1)) a0_0 l0_1 t221 t222))))))) = some r := H
                      have A104 := a5_ A1040
                      clear A1040
                      replace H := Option.bind_eq_some_iff.mp H
                      obtain ⟨⟨t231, t232⟩, A1050, H⟩ := H
                      replace H : ((codesearchlaw24_has.f k3 l2 ((rd_T39 l0_1 x20_3).f0)).bind fun t233 => (if t233 = true then (if (t230 != t232) = true then (some false) else (if t229.toList = t231.toList then ((codesearchlaw24_has.f k3 l2 ((rd_T39 l0_1 x20_3).f0)).bind fun t234 => (if t234 = true then (codesearchlaw24_BlobShares.l1 k3 l2 (wrap64 (x20_3 + 1)) a0_0 l0_1 t221 t222) else (if t232 = true then (some false) else (codesearchlaw24_BlobShares.l1 k3 l2 (wrap64 (x20_3 + 1)) a0_0 l0_1 t221 t222)))) else (some false))) else ((codesearchlaw24_has.f k3 l2 ((rd_T39 l0_1 x20_3).f0)).bind fun t235 => (if t235 = true then (codesearchlaw24_BlobShares.l1 k3 l2 (wrap64 (x20_3 + 1)) a0_0 l0_1 t221 t222) else (if t232 = true then (some false) else (codesearchlaw24_BlobShares.l1 k3 l2 (wrap64 (x20_3 + 1)) a0_0 l0_1 t221 t222)))))) = some r := H
                      have A105 := a5_ A1050
                      clear A1050
                      replace H := Option.bind_eq_some_iff.mp H
                      obtain ⟨t233, A1060, H⟩ := H
                      replace H : (if t233 = true then (if (t230 != t232) = true then (some false) else (if t229.toList = t231.toList then ((codesearchlaw24_has.f k3 l2 ((rd_T39 l0_1 x20_3).f0)).bind fun t234 => (if t234 = true then (codesearchlaw24_BlobShares.l1 k3 l2 (wrap64 (x20_3 + 1)) a0_0 l0_1 t221 t222) else (if t232 = true then (some false) else (codesearchlaw24_BlobShares.l1 k3 l2 (wrap64 (x20_3 + 1)) a0_0 l0_1 t221 t222)))) else (some false))) else ((codesearchlaw24_has.f k3 l2 ((rd_T39 l0_1 x20_3).f0)).bind fun t235 => (if t235 = true then (codesearchlaw24_BlobShares.l1 k3 l2 (wrap64 (x20_3 + 1)) a0_0 l0_1 t221 t222) else (if t232 = true then (some false) else (codesearchlaw24_BlobShares.l1 k3 l2 (wrap64 (x20_3 + 1)) a0_0 l0_1 t221 t222))))) = some r := H
                      have A106 := a5_ A1060
                      clear A1060
                      by_cases c107 : t233 = true
                      · subst c107
                        have H1 : (if (t230 != t232) = true then (some false) else (if t229.toList = t231.toList then ((codesearchlaw24_has.f k3 l2 ((rd_T39 l0_1 x20_3).f0)).bind fun t234 => (if t234 = true then (codesearchlaw24_BlobShares.l1 k3 l2 (wrap64 (x20_3 + 1)) a0_0 l0_1 t221 t222) else (if t232 = true then (some false) else (codesearchlaw24_BlobShares.l1 k3 l2 (wrap64 (x20_3 + 1)) a0_0 l0_1 t221 t222)))) else (some false))) = some r := by rw [if_pos rfl] at H; exact H
                        clear H
                        have H := H1
                        clear H1
                        by_cases c108 : (t230 != t232) = true
                        · rw [if_pos c108] at H
                          have c108b0 : (t230 != t232) = true := c108
                          (try (have c108b1 : decide (t230 = t232) = false := by simpa using c108))
                          (try (have c108b2 : (t230 == t232) = false := by simpa using c108))
                          (try (have c108b3 : ¬ (t230 = t232) := by simpa using c108))
                          clear c108
                          obtain rfl := Option.some.inj H
                          have hnb109 := NB195_203.out
                          have hnc109 := NB203_195.out
                          have hnb110 := NB195_225.out
                          have hnc110 := NB225_195.out
                          have hcz111_0 : wr.cell? ⟨gb195, 0, none⟩ = some (.int .i64 a0_0) := (blk_cell BK195.out 0).trans rfl
                          have hcz111_1 : wr.cell? ⟨gb195, 1, none⟩ = some (.slice A0_1 l0_1.length c0_1) := (blk_cell BK195.out 1).trans rfl
                          have hfz111_0 := blk_frozen BK195.out 0
                          have hfz111_1 := blk_frozen BK195.out 1
                          have p228 : 0 ≤ (x20_3 : Int) := of_decide_eq_true (by first | (with_reducible assumption) | assumption)
                          have q228 : x20_3 < (l0_1.length : Int) := of_decide_eq_true (by first | (with_reducible assumption) | assumption)
                          obtain ⟨ad228, e228, hx228_0, hx228_1⟩ := at_T39 HR0_1.out x20_3 p228 q228
                          cases e228
                          replace hx228_0 := (HB.out.cell (World.block_lt_of_cell? w _ hx228_0)).trans hx228_0
                          replace hx228_1 := (HB.out.cell (World.block_lt_of_cell? w _ hx228_1)).trans hx228_1
                          replace p228 := eq_true p228
                          replace q228 := eq_true q228
                          go_wp2_with (first | ((with_reducible refine gate_callee (f := 15) rfl ?_); refine goesL_ (some 148) rfl rfl Try.func15 (by kernel_rfl) rfl #[.agg #[.int .i64 a0_0, .slice (some ad228) l0_1.length c0_1], .int .i64 ((rd_T39 l0_1 x20_3).f0)] rfl (by (try simp only [List.map_toArray, List.map_cons, List.map_nil]); first | done | rfl | (simp only [List.length_drop, List.length_take]; rfl)) ?_; (with_reducible refine (blob_Get.calls k3 a0_0 _ _ l0_1 ((rd_T39 l0_1 x20_3).f0) t229 t230 _ ?side1 ?side2 A104.out).mono ?_); (case side1 => repeat (first | exact (Kd.C_below HR0_1.out HB.out) | (with_reducible refine Kd.C_alloc ?_ _) | (with_reducible refine Kd.C_drewN ?_ _) | (with_reducible refine Kd.C_drew ?_))); (case side2 => exact HC0_1.out); rintro e w112 ⟨rfl, hb⟩; refine ⟨_, rfl, ?_⟩; have n0_ := a5_ (Kd.V_below (by (with_reducible repeat (first | apply Kd.V_alloc | apply Kd.V_drewN | apply Kd.V_drew)); exact HO_204001.out) hb); have n1_ := a5_ (Kd.R_below (by (with_reducible repeat (first | apply Kd.R_alloc | apply Kd.R_drewN | apply Kd.R_drew)); exact HO_226001.out) hb); have n2_ := a5_ (blk_below (g := gb195) (o := .cells #[.int .i64 a0_0, .slice (some ad228) l0_1.length c0_1] 24 (0, 0)) (by (with_reducible repeat (first | refine blk_drewN ?_ _ | refine blk_drew ?_ | refine blk_alloc ?_ _)); exact BK195.out) hb); have n3_ := a5_ (blk_below (g := gb203) (o := .cells #[.int .i64 t197, .slice Ao20 t198.length co20] 24 (0, 0)) (by (with_reducible repeat (first | refine blk_drewN ?_ _ | refine blk_drew ?_ | refine blk_alloc ?_ _)); exact BK203.out) hb); have n4_ := a5_ (blk_below (g := gb225) (o := .cells #[.int .i64 t221, .slice Ao101 t222.length co101] 24 (0, 0)) (by (with_reducible repeat (first | refine blk_drewN ?_ _ | refine blk_drew ?_ | refine blk_alloc ?_ _)); exact BK225.out) hb); have n5_ := a5_ (below_step (by repeat (first | (with_reducible first | exact HB.out | apply below_alloc | apply q5_ | apply below_drew1 | refine below_set ?_ GE195.out | refine below_set ?_ GE203.out | refine below_set ?_ GE225.out) | exact HB.out)) hb); clear HO_204001; clear HO_226001; clear BK195; clear BK203; clear BK225; clear HB; have HO_204001 := n0_; have HO_226001 := n1_; have BK195 := n2_; have BK203 := n3_; have BK225 := n4_; have HB := n5_; clear n0_ n1_ n2_ n3_ n4_ n5_; (try clear hb); (try clear hb2); (try clear hk); (try clear hi); have hnb113 := NB225_203.out; have hnc113 := NB203_225.out; have hcz114_0 : w112.cell? ⟨gb225, 0, none⟩ = some (.int .i64 t221) := (blk_cell BK225.out 0).trans rfl; have hcz114_1 : w112.cell? ⟨gb225, 1, none⟩ = some (.slice Ao101 t222.length co101) := (blk_cell BK225.out 1).trans rfl; have hfz114_0 := blk_frozen BK225.out 0; have hfz114_1 := blk_frozen BK225.out 1) | ((with_reducible refine gate_callee (f := 15) rfl ?_); refine goesL_ (some 154) rfl rfl Try.func15 (by kernel_rfl) rfl #[.agg #[.int .i64 t221, .slice Ao101 t222.length co101], .int .i64 ((rd_T39 l0_1 x20_3).f0)] rfl (by (try simp only [List.map_toArray, List.map_cons, List.map_nil]); first | done | rfl | (simp only [List.length_drop, List.length_take]; rfl)) ?_; (with_reducible refine (blob_Get.calls k3 t221 _ _ t222 ((rd_T39 l0_1 x20_3).f0) t231 t232 _ ?side1 ?side2 A105.out).mono ?_); (case side1 => repeat (first | exact (Kd.R_reads' HO_226001.out).2.2 | (with_reducible refine Kd.C_alloc ?_ _) | (with_reducible refine Kd.C_drewN ?_ _) | (with_reducible refine Kd.C_drew ?_))); (case side2 => exact (Kd.R_reads' HO_226001.out).2.1); rintro e w115 ⟨rfl, hb⟩; refine ⟨_, rfl, ?_⟩; have n0_ := a5_ (Kd.V_below (by (with_reducible repeat (first | apply Kd.V_alloc | apply Kd.V_drewN | apply Kd.V_drew)); exact HO_204001.out) hb); have n1_ := a5_ (Kd.R_below (by (with_reducible repeat (first | apply Kd.R_alloc | apply Kd.R_drewN | apply Kd.R_drew)); exact HO_226001.out) hb); have n2_ := a5_ (blk_below (g := gb195) (o := .cells #[.int .i64 a0_0, .slice (some ad228) l0_1.length c0_1] 24 (0, 0)) (by (with_reducible repeat (first | refine blk_drewN ?_ _ | refine blk_drew ?_ | refine blk_alloc ?_ _)); exact BK195.out) hb); have n3_ := a5_ (blk_below (g := gb203) (o := .cells #[.int .i64 t197, .slice Ao20 t198.length co20] 24 (0, 0)) (by (with_reducible repeat (first | refine blk_drewN ?_ _ | refine blk_drew ?_ | refine blk_alloc ?_ _)); exact BK203.out) hb); have n4_ := a5_ (blk_below (g := gb225) (o := .cells #[.int .i64 t221, .slice Ao101 t222.length co101] 24 (0, 0)) (by (with_reducible repeat (first | refine blk_drewN ?_ _ | refine blk_drew ?_ | refine blk_alloc ?_ _)); exact BK225.out) hb); have n5_ := a5_ (below_step (by repeat (first | (with_reducible first | exact HB.out | apply below_alloc | apply q5_ | apply below_drew1 | refine below_set ?_ GE195.out | refine below_set ?_ GE203.out | refine below_set ?_ GE225.out) | exact HB.out)) hb); clear HO_204001; clear HO_226001; clear BK195; clear BK203; clear BK225; clear HB; have HO_204001 := n0_; have HO_226001 := n1_; have BK195 := n2_; have BK203 := n3_; have BK225 := n4_; have HB := n5_; clear n0_ n1_ n2_ n3_ n4_ n5_; (try clear hb); (try clear hb2); (try clear hk); (try clear hi)) | ((with_reducible refine gate_callee (f := 17) rfl ?_); refine goesL_ (some 159) rfl rfl Try.func17 (by kernel_rfl) rfl #[.slice A2 l2.length c2, .int .i64 ((rd_T39 l0_1 x20_3).f0)] rfl (by (try simp only [List.map_toArray, List.map_cons, List.map_nil]); first | done | rfl | (simp only [List.length_drop, List.length_take]; rfl)) ?_; (with_reducible refine (codesearchlaw24_has.calls k3 _ _ l2 ((rd_T39 l0_1 x20_3).f0) true _ ?side1 ?side2 A106.out).mono ?_); (case side1 => repeat (first | exact (Kd.C_below HR2.out HB.out) | (with_reducible refine Kd.C_alloc ?_ _) | (with_reducible refine Kd.C_drewN ?_ _) | (with_reducible refine Kd.C_drew ?_))); (case side2 => exact HC2.out); rintro e w' ⟨rfl, ⟨nd, rfl⟩⟩; refine ⟨_, rfl, ?_⟩))
                          go_ret
                          exact ⟨by first | rfl | (simp [errW_none, errW_some] <;> rfl) | (simp [*, errW_none, errW_some] <;> rfl), by repeat (first | (with_reducible first | exact HB.out | apply below_alloc | apply q5_ | apply below_drew1 | refine below_set ?_ GE195.out | refine below_set ?_ GE203.out | refine below_set ?_ GE225.out) | exact HB.out)⟩
                        · rw [if_neg c108] at H
                          have c108b0 : (t230 != t232) = false := by simpa using c108
                          (try (have c108b1 : decide (t230 = t232) = true := by simpa using c108))
                          (try (have c108b2 : (t230 == t232) = true := by simpa using c108))
                          clear c108
                          by_cases c116 : t229.toList = t231.toList
                          · rw [if_pos c116] at H
                            have c116b0 : (t229.toList == t231.toList) = true := beq_iff_eq.mpr c116
                            have c116b1 : (t229.toList != t231.toList) = false := bne_eq_false_iff_eq.mpr c116
                            clear c116
                            replace H := Option.bind_eq_some_iff.mp H
                            obtain ⟨t234, A1170, H⟩ := H
                            replace H : (if t234 = true then (codesearchlaw24_BlobShares.l1 k3 l2 (wrap64 (x20_3 + 1)) a0_0 l0_1 t221 t222) else (if t232 = true then (some false) else (codesearchlaw24_BlobShares.l1 k3 l2 (wrap64 (x20_3 + 1)) a0_0 l0_1 t221 t222))) = some r := H
                            have A117 := a5_ A1170
                            clear A1170
                            by_cases c118 : t234 = true
                            · subst c118
                              have H1 : (codesearchlaw24_BlobShares.l1 k3 l2 (wrap64 (x20_3 + 1)) a0_0 l0_1 t221 t222) = some r := by rw [if_pos rfl] at H; exact H
                              clear H
                              have H := H1
                              clear H1
                              have H' := a5_ H
                              clear H
                              have hnb119 := NB195_203.out
                              have hnc119 := NB203_195.out
                              have hnb120 := NB195_225.out
                              have hnc120 := NB225_195.out
                              have hcz121_0 : wr.cell? ⟨gb195, 0, none⟩ = some (.int .i64 a0_0) := (blk_cell BK195.out 0).trans rfl
                              have hcz121_1 : wr.cell? ⟨gb195, 1, none⟩ = some (.slice A0_1 l0_1.length c0_1) := (blk_cell BK195.out 1).trans rfl
                              have hfz121_0 := blk_frozen BK195.out 0
                              have hfz121_1 := blk_frozen BK195.out 1
                              have p228 : 0 ≤ (x20_3 : Int) := of_decide_eq_true (by first | (with_reducible assumption) | assumption)
                              have q228 : x20_3 < (l0_1.length : Int) := of_decide_eq_true (by first | (with_reducible assumption) | assumption)
                              obtain ⟨ad228, e228, hx228_0, hx228_1⟩ := at_T39 HR0_1.out x20_3 p228 q228
                              cases e228
                              replace hx228_0 := (HB.out.cell (World.block_lt_of_cell? w _ hx228_0)).trans hx228_0
                              replace hx228_1 := (HB.out.cell (World.block_lt_of_cell? w _ hx228_1)).trans hx228_1
                              replace p228 := eq_true p228
                              replace q228 := eq_true q228
                              go_wp2_with (first | ((with_reducible refine gate_callee (f := 15) rfl ?_); refine goesL_ (some 148) rfl rfl Try.func15 (by kernel_rfl) rfl #[.agg #[.int .i64 a0_0, .slice (some ad228) l0_1.length c0_1], .int .i64 ((rd_T39 l0_1 x20_3).f0)] rfl (by (try simp only [List.map_toArray, List.map_cons, List.map_nil]); first | done | rfl | (simp only [List.length_drop, List.length_take]; rfl)) ?_; (with_reducible refine (blob_Get.calls k3 a0_0 _ _ l0_1 ((rd_T39 l0_1 x20_3).f0) t229 t230 _ ?side1 ?side2 A104.out).mono ?_); (case side1 => repeat (first | exact (Kd.C_below HR0_1.out HB.out) | (with_reducible refine Kd.C_alloc ?_ _) | (with_reducible refine Kd.C_drewN ?_ _) | (with_reducible refine Kd.C_drew ?_))); (case side2 => exact HC0_1.out); rintro e w122 ⟨rfl, hb⟩; refine ⟨_, rfl, ?_⟩; have n0_ := a5_ (Kd.V_below (by (with_reducible repeat (first | apply Kd.V_alloc | apply Kd.V_drewN | apply Kd.V_drew)); exact HO_204001.out) hb); have n1_ := a5_ (Kd.R_below (by (with_reducible repeat (first | apply Kd.R_alloc | apply Kd.R_drewN | apply Kd.R_drew)); exact HO_226001.out) hb); have n2_ := a5_ (blk_below (g := gb195) (o := .cells #[.int .i64 a0_0, .slice (some ad228) l0_1.length c0_1] 24 (0, 0)) (by (with_reducible repeat (first | refine blk_drewN ?_ _ | refine blk_drew ?_ | refine blk_alloc ?_ _)); exact BK195.out) hb); have n3_ := a5_ (blk_below (g := gb203) (o := .cells #[.int .i64 t197, .slice Ao20 t198.length co20] 24 (0, 0)) (by (with_reducible repeat (first | refine blk_drewN ?_ _ | refine blk_drew ?_ | refine blk_alloc ?_ _)); exact BK203.out) hb); have n4_ := a5_ (blk_below (g := gb225) (o := .cells #[.int .i64 t221, .slice Ao101 t222.length co101] 24 (0, 0)) (by (with_reducible repeat (first | refine blk_drewN ?_ _ | refine blk_drew ?_ | refine blk_alloc ?_ _)); exact BK225.out) hb); have n5_ := a5_ (below_step (by repeat (first | (with_reducible first | exact HB.out | apply below_alloc | apply q5_ | apply below_drew1 | refine below_set ?_ GE195.out | refine below_set ?_ GE203.out | refine below_set ?_ GE225.out) | exact HB.out)) hb); clear HO_204001; clear HO_226001; clear BK195; clear BK203; clear BK225; clear HB; have HO_204001 := n0_; have HO_226001 := n1_; have BK195 := n2_; have BK203 := n3_; have BK225 := n4_; have HB := n5_; clear n0_ n1_ n2_ n3_ n4_ n5_; (try clear hb); (try clear hb2); (try clear hk); (try clear hi); have hnb123 := NB225_203.out; have hnc123 := NB203_225.out; have hcz124_0 : w122.cell? ⟨gb225, 0, none⟩ = some (.int .i64 t221) := (blk_cell BK225.out 0).trans rfl; have hcz124_1 : w122.cell? ⟨gb225, 1, none⟩ = some (.slice Ao101 t222.length co101) := (blk_cell BK225.out 1).trans rfl; have hfz124_0 := blk_frozen BK225.out 0; have hfz124_1 := blk_frozen BK225.out 1) | ((with_reducible refine gate_callee (f := 15) rfl ?_); refine goesL_ (some 154) rfl rfl Try.func15 (by kernel_rfl) rfl #[.agg #[.int .i64 t221, .slice Ao101 t222.length co101], .int .i64 ((rd_T39 l0_1 x20_3).f0)] rfl (by (try simp only [List.map_toArray, List.map_cons, List.map_nil]); first | done | rfl | (simp only [List.length_drop, List.length_take]; rfl)) ?_; (with_reducible refine (blob_Get.calls k3 t221 _ _ t222 ((rd_T39 l0_1 x20_3).f0) t231 t232 _ ?side1 ?side2 A105.out).mono ?_); (case side1 => repeat (first | exact (Kd.R_reads' HO_226001.out).2.2 | (with_reducible refine Kd.C_alloc ?_ _) | (with_reducible refine Kd.C_drewN ?_ _) | (with_reducible refine Kd.C_drew ?_))); (case side2 => exact (Kd.R_reads' HO_226001.out).2.1); rintro e w125 ⟨rfl, hb⟩; refine ⟨_, rfl, ?_⟩; have n0_ := a5_ (Kd.V_below (by (with_reducible repeat (first | apply Kd.V_alloc | apply Kd.V_drewN | apply Kd.V_drew)); exact HO_204001.out) hb); have n1_ := a5_ (Kd.R_below (by (with_reducible repeat (first | apply Kd.R_alloc | apply Kd.R_drewN | apply Kd.R_drew)); exact HO_226001.out) hb); have n2_ := a5_ (blk_below (g := gb195) (o := .cells #[.int .i64 a0_0, .slice (some ad228) l0_1.length c0_1] 24 (0, 0)) (by (with_reducible repeat (first | refine blk_drewN ?_ _ | refine blk_drew ?_ | refine blk_alloc ?_ _)); exact BK195.out) hb); have n3_ := a5_ (blk_below (g := gb203) (o := .cells #[.int .i64 t197, .slice Ao20 t198.length co20] 24 (0, 0)) (by (with_reducible repeat (first | refine blk_drewN ?_ _ | refine blk_drew ?_ | refine blk_alloc ?_ _)); exact BK203.out) hb); have n4_ := a5_ (blk_below (g := gb225) (o := .cells #[.int .i64 t221, .slice Ao101 t222.length co101] 24 (0, 0)) (by (with_reducible repeat (first | refine blk_drewN ?_ _ | refine blk_drew ?_ | refine blk_alloc ?_ _)); exact BK225.out) hb); have n5_ := a5_ (below_step (by repeat (first | (with_reducible first | exact HB.out | apply below_alloc | apply q5_ | apply below_drew1 | refine below_set ?_ GE195.out | refine below_set ?_ GE203.out | refine below_set ?_ GE225.out) | exact HB.out)) hb); clear HO_204001; clear HO_226001; clear BK195; clear BK203; clear BK225; clear HB; have HO_204001 := n0_; have HO_226001 := n1_; have BK195 := n2_; have BK203 := n3_; have BK225 := n4_; have HB := n5_; clear n0_ n1_ n2_ n3_ n4_ n5_; (try clear hb); (try clear hb2); (try clear hk); (try clear hi)) | ((with_reducible refine gate_callee (f := 17) rfl ?_); refine goesL_ (some 159) rfl rfl Try.func17 (by kernel_rfl) rfl #[.slice A2 l2.length c2, .int .i64 ((rd_T39 l0_1 x20_3).f0)] rfl (by (try simp only [List.map_toArray, List.map_cons, List.map_nil]); first | done | rfl | (simp only [List.length_drop, List.length_take]; rfl)) ?_; (with_reducible refine (codesearchlaw24_has.calls k3 _ _ l2 ((rd_T39 l0_1 x20_3).f0) true _ ?side1 ?side2 A106.out).mono ?_); (case side1 => repeat (first | exact (Kd.C_below HR2.out HB.out) | (with_reducible refine Kd.C_alloc ?_ _) | (with_reducible refine Kd.C_drewN ?_ _) | (with_reducible refine Kd.C_drew ?_))); (case side2 => exact HC2.out); rintro e w' ⟨rfl, ⟨nd, rfl⟩⟩; refine ⟨_, rfl, ?_⟩) | (go_at_call 17; (with_reducible refine (codesearchlaw24_has.calls k3 _ _ l2 ((rd_T39 l0_1 x20_3).f0) true _ ?side1 ?side2 A117.out).mono ?_); (case side1 => repeat (first | exact (Kd.C_below HR2.out (by repeat (first | (with_reducible first | exact HB.out | apply below_alloc | apply q5_ | apply below_drew1 | refine below_set ?_ GE195.out | refine below_set ?_ GE203.out | refine below_set ?_ GE225.out) | exact HB.out))) | (with_reducible refine Kd.C_alloc ?_ _) | (with_reducible refine Kd.C_drewN ?_ _) | (with_reducible refine Kd.C_drew ?_))); (case side2 => exact HC2.out); rintro e w' ⟨rfl, ⟨nd, rfl⟩⟩))
                              go_roundg k3
                              case measure => have := HJ5.out; have := HJ13.out; have := HK3.out; omega
                              case rel => exact ⟨(wrap64 (x20_3 + 1)), (by first | rfl | (simp; done) | (simp [*]; done)), H', ⟨by have := HJ5.out; have := HJ13.out; have := HK3.out; omega⟩, ⟨by (with_reducible repeat (first | apply Kd.V_alloc | apply Kd.V_drewN | apply Kd.V_drew)); exact HO_204001.out⟩, ⟨by (with_reducible repeat (first | apply Kd.R_alloc | apply Kd.R_drewN | apply Kd.R_drew)); exact HO_226001.out⟩, ⟨by (with_reducible repeat (first | refine blk_drewN ?_ _ | refine blk_drew ?_ | refine blk_alloc ?_ _)); exact BK195.out⟩, ⟨by (with_reducible repeat (first | refine blk_drewN ?_ _ | refine blk_drew ?_ | refine blk_alloc ?_ _)); exact BK203.out⟩, ⟨by (with_reducible repeat (first | refine blk_drewN ?_ _ | refine blk_drew ?_ | refine blk_alloc ?_ _)); exact BK225.out⟩, ⟨by repeat (first | (with_reducible first | exact HB.out | apply below_alloc | apply q5_ | apply below_drew1 | refine below_set ?_ GE195.out | refine below_set ?_ GE203.out | refine below_set ?_ GE225.out) | exact HB.out)⟩⟩
                            · replace c118 := Bool.eq_false_iff.mpr c118
                              subst c118
                              have H1 : (if t232 = true then (some false) else (codesearchlaw24_BlobShares.l1 k3 l2 (wrap64 (x20_3 + 1)) a0_0 l0_1 t221 t222)) = some r := by rw [if_neg (show ¬ (false = true) by decide)] at H; exact H
                              clear H
                              have H := H1
                              clear H1
                              by_cases c126 : t232 = true
                              · subst c126
                                have H1 : (some false) = some r := by rw [if_pos rfl] at H; exact H
                                clear H
                                have H := H1
                                clear H1
                                obtain rfl := Option.some.inj H
                                have hnb127 := NB195_203.out
                                have hnc127 := NB203_195.out
                                have hnb128 := NB195_225.out
                                have hnc128 := NB225_195.out
                                have hcz129_0 : wr.cell? ⟨gb195, 0, none⟩ = some (.int .i64 a0_0) := (blk_cell BK195.out 0).trans rfl
                                have hcz129_1 : wr.cell? ⟨gb195, 1, none⟩ = some (.slice A0_1 l0_1.length c0_1) := (blk_cell BK195.out 1).trans rfl
                                have hfz129_0 := blk_frozen BK195.out 0
                                have hfz129_1 := blk_frozen BK195.out 1
                                have p228 : 0 ≤ (x20_3 : Int) := of_decide_eq_true (by first | (with_reducible assumption) | assumption)
                                have q228 : x20_3 < (l0_1.length : Int) := of_decide_eq_true (by first | (with_reducible assumption) | assumption)
                                obtain ⟨ad228, e228, hx228_0, hx228_1⟩ := at_T39 HR0_1.out x20_3 p228 q228
                                cases e228
                                replace hx228_0 := (HB.out.cell (World.block_lt_of_cell? w _ hx228_0)).trans hx228_0
                                replace hx228_1 := (HB.out.cell (World.block_lt_of_cell? w _ hx228_1)).trans hx228_1
                                replace p228 := eq_true p228
                                replace q228 := eq_true q228
                                go_wp2_with (first | ((with_reducible refine gate_callee (f := 15) rfl ?_); refine goesL_ (some 148) rfl rfl Try.func15 (by kernel_rfl) rfl #[.agg #[.int .i64 a0_0, .slice (some ad228) l0_1.length c0_1], .int .i64 ((rd_T39 l0_1 x20_3).f0)] rfl (by (try simp only [List.map_toArray, List.map_cons, List.map_nil]); first | done | rfl | (simp only [List.length_drop, List.length_take]; rfl)) ?_; (with_reducible refine (blob_Get.calls k3 a0_0 _ _ l0_1 ((rd_T39 l0_1 x20_3).f0) t229 t230 _ ?side1 ?side2 A104.out).mono ?_); (case side1 => repeat (first | exact (Kd.C_below HR0_1.out HB.out) | (with_reducible refine Kd.C_alloc ?_ _) | (with_reducible refine Kd.C_drewN ?_ _) | (with_reducible refine Kd.C_drew ?_))); (case side2 => exact HC0_1.out); rintro e w130 ⟨rfl, hb⟩; refine ⟨_, rfl, ?_⟩; have n0_ := a5_ (Kd.V_below (by (with_reducible repeat (first | apply Kd.V_alloc | apply Kd.V_drewN | apply Kd.V_drew)); exact HO_204001.out) hb); have n1_ := a5_ (Kd.R_below (by (with_reducible repeat (first | apply Kd.R_alloc | apply Kd.R_drewN | apply Kd.R_drew)); exact HO_226001.out) hb); have n2_ := a5_ (blk_below (g := gb195) (o := .cells #[.int .i64 a0_0, .slice (some ad228) l0_1.length c0_1] 24 (0, 0)) (by (with_reducible repeat (first | refine blk_drewN ?_ _ | refine blk_drew ?_ | refine blk_alloc ?_ _)); exact BK195.out) hb); have n3_ := a5_ (blk_below (g := gb203) (o := .cells #[.int .i64 t197, .slice Ao20 t198.length co20] 24 (0, 0)) (by (with_reducible repeat (first | refine blk_drewN ?_ _ | refine blk_drew ?_ | refine blk_alloc ?_ _)); exact BK203.out) hb); have n4_ := a5_ (blk_below (g := gb225) (o := .cells #[.int .i64 t221, .slice Ao101 t222.length co101] 24 (0, 0)) (by (with_reducible repeat (first | refine blk_drewN ?_ _ | refine blk_drew ?_ | refine blk_alloc ?_ _)); exact BK225.out) hb); have n5_ := a5_ (below_step (by repeat (first | (with_reducible first | exact HB.out | apply below_alloc | apply q5_ | apply below_drew1 | refine below_set ?_ GE195.out | refine below_set ?_ GE203.out | refine below_set ?_ GE225.out) | exact HB.out)) hb); clear HO_204001; clear HO_226001; clear BK195; clear BK203; clear BK225; clear HB; have HO_204001 := n0_; have HO_226001 := n1_; have BK195 := n2_; have BK203 := n3_; have BK225 := n4_; have HB := n5_; clear n0_ n1_ n2_ n3_ n4_ n5_; (try clear hb); (try clear hb2); (try clear hk); (try clear hi); have hnb131 := NB225_203.out; have hnc131 := NB203_225.out; have hcz132_0 : w130.cell? ⟨gb225, 0, none⟩ = some (.int .i64 t221) := (blk_cell BK225.out 0).trans rfl; have hcz132_1 : w130.cell? ⟨gb225, 1, none⟩ = some (.slice Ao101 t222.length co101) := (blk_cell BK225.out 1).trans rfl; have hfz132_0 := blk_frozen BK225.out 0; have hfz132_1 := blk_frozen BK225.out 1) | ((with_reducible refine gate_callee (f := 15) rfl ?_); refine goesL_ (some 154) rfl rfl Try.func15 (by kernel_rfl) rfl #[.agg #[.int .i64 t221, .slice Ao101 t222.length co101], .int .i64 ((rd_T39 l0_1 x20_3).f0)] rfl (by (try simp only [List.map_toArray, List.map_cons, List.map_nil]); first | done | rfl | (simp only [List.length_drop, List.length_take]; rfl)) ?_; (with_reducible refine (blob_Get.calls k3 t221 _ _ t222 ((rd_T39 l0_1 x20_3).f0) t231 true _ ?side1 ?side2 A105.out).mono ?_); (case side1 => repeat (first | exact (Kd.R_reads' HO_226001.out).2.2 | (with_reducible refine Kd.C_alloc ?_ _) | (with_reducible refine Kd.C_drewN ?_ _) | (with_reducible refine Kd.C_drew ?_))); (case side2 => exact (Kd.R_reads' HO_226001.out).2.1); rintro e w133 ⟨rfl, hb⟩; refine ⟨_, rfl, ?_⟩; have n0_ := a5_ (Kd.V_below (by (with_reducible repeat (first | apply Kd.V_alloc | apply Kd.V_drewN | apply Kd.V_drew)); exact HO_204001.out) hb); have n1_ := a5_ (Kd.R_below (by (with_reducible repeat (first | apply Kd.R_alloc | apply Kd.R_drewN | apply Kd.R_drew)); exact HO_226001.out) hb); have n2_ := a5_ (blk_below (g := gb195) (o := .cells #[.int .i64 a0_0, .slice (some ad228) l0_1.length c0_1] 24 (0, 0)) (by (with_reducible repeat (first | refine blk_drewN ?_ _ | refine blk_drew ?_ | refine blk_alloc ?_ _)); exact BK195.out) hb); have n3_ := a5_ (blk_below (g := gb203) (o := .cells #[.int .i64 t197, .slice Ao20 t198.length co20] 24 (0, 0)) (by (with_reducible repeat (first | refine blk_drewN ?_ _ | refine blk_drew ?_ | refine blk_alloc ?_ _)); exact BK203.out) hb); have n4_ := a5_ (blk_below (g := gb225) (o := .cells #[.int .i64 t221, .slice Ao101 t222.length co101] 24 (0, 0)) (by (with_reducible repeat (first | refine blk_drewN ?_ _ | refine blk_drew ?_ | refine blk_alloc ?_ _)); exact BK225.out) hb); have n5_ := a5_ (below_step (by repeat (first | (with_reducible first | exact HB.out | apply below_alloc | apply q5_ | apply below_drew1 | refine below_set ?_ GE195.out | refine below_set ?_ GE203.out | refine below_set ?_ GE225.out) | exact HB.out)) hb); clear HO_204001; clear HO_226001; clear BK195; clear BK203; clear BK225; clear HB; have HO_204001 := n0_; have HO_226001 := n1_; have BK195 := n2_; have BK203 := n3_; have BK225 := n4_; have HB := n5_; clear n0_ n1_ n2_ n3_ n4_ n5_; (try clear hb); (try clear hb2); (try clear hk); (try clear hi)) | ((with_reducible refine gate_callee (f := 17) rfl ?_); refine goesL_ (some 159) rfl rfl Try.func17 (by kernel_rfl) rfl #[.slice A2 l2.length c2, .int .i64 ((rd_T39 l0_1 x20_3).f0)] rfl (by (try simp only [List.map_toArray, List.map_cons, List.map_nil]); first | done | rfl | (simp only [List.length_drop, List.length_take]; rfl)) ?_; (with_reducible refine (codesearchlaw24_has.calls k3 _ _ l2 ((rd_T39 l0_1 x20_3).f0) true _ ?side1 ?side2 A106.out).mono ?_); (case side1 => repeat (first | exact (Kd.C_below HR2.out HB.out) | (with_reducible refine Kd.C_alloc ?_ _) | (with_reducible refine Kd.C_drewN ?_ _) | (with_reducible refine Kd.C_drew ?_))); (case side2 => exact HC2.out); rintro e w' ⟨rfl, ⟨nd, rfl⟩⟩; refine ⟨_, rfl, ?_⟩) | (go_at_call 17; (with_reducible refine (codesearchlaw24_has.calls k3 _ _ l2 ((rd_T39 l0_1 x20_3).f0) false _ ?side1 ?side2 A117.out).mono ?_); (case side1 => repeat (first | exact (Kd.C_below HR2.out (by repeat (first | (with_reducible first | exact HB.out | apply below_alloc | apply q5_ | apply below_drew1 | refine below_set ?_ GE195.out | refine below_set ?_ GE203.out | refine below_set ?_ GE225.out) | exact HB.out))) | (with_reducible refine Kd.C_alloc ?_ _) | (with_reducible refine Kd.C_drewN ?_ _) | (with_reducible refine Kd.C_drew ?_))); (case side2 => exact HC2.out); rintro e w' ⟨rfl, ⟨nd, rfl⟩⟩))
                                go_ret
                                exact ⟨by first | rfl | (simp [errW_none, errW_some] <;> rfl) | (simp [*, errW_none, errW_some] <;> rfl), by repeat (first | (with_reducible first | exact HB.out | apply below_alloc | apply q5_ | apply below_drew1 | refine below_set ?_ GE195.out | refine below_set ?_ GE203.out | refine below_set ?_ GE225.out) | exact HB.out)⟩
                              · replace c126 := Bool.eq_false_iff.mpr c126
                                subst c126
                                have H1 : (codesearchlaw24_BlobShares.l1 k3 l2 (wrap64 (x20_3 + 1)) a0_0 l0_1 t221 t222) = some r := by rw [if_neg (show ¬ (false = true) by decide)] at H; exact H
                                clear H
                                have H := H1
                                clear H1
                                have H' := a5_ H
                                clear H
                                have hnb134 := NB195_203.out
                                have hnc134 := NB203_195.out
                                have hnb135 := NB195_225.out
                                have hnc135 := NB225_195.out
                                have hcz136_0 : wr.cell? ⟨gb195, 0, none⟩ = some (.int .i64 a0_0) := (blk_cell BK195.out 0).trans rfl
                                have hcz136_1 : wr.cell? ⟨gb195, 1, none⟩ = some (.slice A0_1 l0_1.length c0_1) := (blk_cell BK195.out 1).trans rfl
                                have hfz136_0 := blk_frozen BK195.out 0
                                have hfz136_1 := blk_frozen BK195.out 1
                                have p228 : 0 ≤ (x20_3 : Int) := of_decide_eq_true (by first | (with_reducible assumption) | assumption)
                                have q228 : x20_3 < (l0_1.length : Int) := of_decide_eq_true (by first | (with_reducible assumption) | assumption)
                                obtain ⟨ad228, e228, hx228_0, hx228_1⟩ := at_T39 HR0_1.out x20_3 p228 q228
                                cases e228
                                replace hx228_0 := (HB.out.cell (World.block_lt_of_cell? w _ hx228_0)).trans hx228_0
                                replace hx228_1 := (HB.out.cell (World.block_lt_of_cell? w _ hx228_1)).trans hx228_1
                                replace p228 := eq_true p228
                                replace q228 := eq_true q228
                                go_wp2_with (first | ((with_reducible refine gate_callee (f := 15) rfl ?_); refine goesL_ (some 148) rfl rfl Try.func15 (by kernel_rfl) rfl #[.agg #[.int .i64 a0_0, .slice (some ad228) l0_1.length c0_1], .int .i64 ((rd_T39 l0_1 x20_3).f0)] rfl (by (try simp only [List.map_toArray, List.map_cons, List.map_nil]); first | done | rfl | (simp only [List.length_drop, List.length_take]; rfl)) ?_; (with_reducible refine (blob_Get.calls k3 a0_0 _ _ l0_1 ((rd_T39 l0_1 x20_3).f0) t229 t230 _ ?side1 ?side2 A104.out).mono ?_); (case side1 => repeat (first | exact (Kd.C_below HR0_1.out HB.out) | (with_reducible refine Kd.C_alloc ?_ _) | (with_reducible refine Kd.C_drewN ?_ _) | (with_reducible refine Kd.C_drew ?_))); (case side2 => exact HC0_1.out); rintro e w137 ⟨rfl, hb⟩; refine ⟨_, rfl, ?_⟩; have n0_ := a5_ (Kd.V_below (by (with_reducible repeat (first | apply Kd.V_alloc | apply Kd.V_drewN | apply Kd.V_drew)); exact HO_204001.out) hb); have n1_ := a5_ (Kd.R_below (by (with_reducible repeat (first | apply Kd.R_alloc | apply Kd.R_drewN | apply Kd.R_drew)); exact HO_226001.out) hb); have n2_ := a5_ (blk_below (g := gb195) (o := .cells #[.int .i64 a0_0, .slice (some ad228) l0_1.length c0_1] 24 (0, 0)) (by (with_reducible repeat (first | refine blk_drewN ?_ _ | refine blk_drew ?_ | refine blk_alloc ?_ _)); exact BK195.out) hb); have n3_ := a5_ (blk_below (g := gb203) (o := .cells #[.int .i64 t197, .slice Ao20 t198.length co20] 24 (0, 0)) (by (with_reducible repeat (first | refine blk_drewN ?_ _ | refine blk_drew ?_ | refine blk_alloc ?_ _)); exact BK203.out) hb); have n4_ := a5_ (blk_below (g := gb225) (o := .cells #[.int .i64 t221, .slice Ao101 t222.length co101] 24 (0, 0)) (by (with_reducible repeat (first | refine blk_drewN ?_ _ | refine blk_drew ?_ | refine blk_alloc ?_ _)); exact BK225.out) hb); have n5_ := a5_ (below_step (by repeat (first | (with_reducible first | exact HB.out | apply below_alloc | apply q5_ | apply below_drew1 | refine below_set ?_ GE195.out | refine below_set ?_ GE203.out | refine below_set ?_ GE225.out) | exact HB.out)) hb); clear HO_204001; clear HO_226001; clear BK195; clear BK203; clear BK225; clear HB; have HO_204001 := n0_; have HO_226001 := n1_; have BK195 := n2_; have BK203 := n3_; have BK225 := n4_; have HB := n5_; clear n0_ n1_ n2_ n3_ n4_ n5_; (try clear hb); (try clear hb2); (try clear hk); (try clear hi); have hnb138 := NB225_203.out; have hnc138 := NB203_225.out; have hcz139_0 : w137.cell? ⟨gb225, 0, none⟩ = some (.int .i64 t221) := (blk_cell BK225.out 0).trans rfl; have hcz139_1 : w137.cell? ⟨gb225, 1, none⟩ = some (.slice Ao101 t222.length co101) := (blk_cell BK225.out 1).trans rfl; have hfz139_0 := blk_frozen BK225.out 0; have hfz139_1 := blk_frozen BK225.out 1) | ((with_reducible refine gate_callee (f := 15) rfl ?_); refine goesL_ (some 154) rfl rfl Try.func15 (by kernel_rfl) rfl #[.agg #[.int .i64 t221, .slice Ao101 t222.length co101], .int .i64 ((rd_T39 l0_1 x20_3).f0)] rfl (by (try simp only [List.map_toArray, List.map_cons, List.map_nil]); first | done | rfl | (simp only [List.length_drop, List.length_take]; rfl)) ?_; (with_reducible refine (blob_Get.calls k3 t221 _ _ t222 ((rd_T39 l0_1 x20_3).f0) t231 false _ ?side1 ?side2 A105.out).mono ?_); (case side1 => repeat (first | exact (Kd.R_reads' HO_226001.out).2.2 | (with_reducible refine Kd.C_alloc ?_ _) | (with_reducible refine Kd.C_drewN ?_ _) | (with_reducible refine Kd.C_drew ?_))); (case side2 => exact (Kd.R_reads' HO_226001.out).2.1); rintro e w140 ⟨rfl, hb⟩; refine ⟨_, rfl, ?_⟩; have n0_ := a5_ (Kd.V_below (by (with_reducible repeat (first | apply Kd.V_alloc | apply Kd.V_drewN | apply Kd.V_drew)); exact HO_204001.out) hb); have n1_ := a5_ (Kd.R_below (by (with_reducible repeat (first | apply Kd.R_alloc | apply Kd.R_drewN | apply Kd.R_drew)); exact HO_226001.out) hb); have n2_ := a5_ (blk_below (g := gb195) (o := .cells #[.int .i64 a0_0, .slice (some ad228) l0_1.length c0_1] 24 (0, 0)) (by (with_reducible repeat (first | refine blk_drewN ?_ _ | refine blk_drew ?_ | refine blk_alloc ?_ _)); exact BK195.out) hb); have n3_ := a5_ (blk_below (g := gb203) (o := .cells #[.int .i64 t197, .slice Ao20 t198.length co20] 24 (0, 0)) (by (with_reducible repeat (first | refine blk_drewN ?_ _ | refine blk_drew ?_ | refine blk_alloc ?_ _)); exact BK203.out) hb); have n4_ := a5_ (blk_below (g := gb225) (o := .cells #[.int .i64 t221, .slice Ao101 t222.length co101] 24 (0, 0)) (by (with_reducible repeat (first | refine blk_drewN ?_ _ | refine blk_drew ?_ | refine blk_alloc ?_ _)); exact BK225.out) hb); have n5_ := a5_ (below_step (by repeat (first | (with_reducible first | exact HB.out | apply below_alloc | apply q5_ | apply below_drew1 | refine below_set ?_ GE195.out | refine below_set ?_ GE203.out | refine below_set ?_ GE225.out) | exact HB.out)) hb); clear HO_204001; clear HO_226001; clear BK195; clear BK203; clear BK225; clear HB; have HO_204001 := n0_; have HO_226001 := n1_; have BK195 := n2_; have BK203 := n3_; have BK225 := n4_; have HB := n5_; clear n0_ n1_ n2_ n3_ n4_ n5_; (try clear hb); (try clear hb2); (try clear hk); (try clear hi)) | ((with_reducible refine gate_callee (f := 17) rfl ?_); refine goesL_ (some 159) rfl rfl Try.func17 (by kernel_rfl) rfl #[.slice A2 l2.length c2, .int .i64 ((rd_T39 l0_1 x20_3).f0)] rfl (by (try simp only [List.map_toArray, List.map_cons, List.map_nil]); first | done | rfl | (simp only [List.length_drop, List.length_take]; rfl)) ?_; (with_reducible refine (codesearchlaw24_has.calls k3 _ _ l2 ((rd_T39 l0_1 x20_3).f0) true _ ?side1 ?side2 A106.out).mono ?_); (case side1 => repeat (first | exact (Kd.C_below HR2.out HB.out) | (with_reducible refine Kd.C_alloc ?_ _) | (with_reducible refine Kd.C_drewN ?_ _) | (with_reducible refine Kd.C_drew ?_))); (case side2 => exact HC2.out); rintro e w' ⟨rfl, ⟨nd, rfl⟩⟩; refine ⟨_, rfl, ?_⟩) | (go_at_call 17; (with_reducible refine (codesearchlaw24_has.calls k3 _ _ l2 ((rd_T39 l0_1 x20_3).f0) false _ ?side1 ?side2 A117.out).mono ?_); (case side1 => repeat (first | exact (Kd.C_below HR2.out (by repeat (first | (with_reducible first | exact HB.out | apply below_alloc | apply q5_ | apply below_drew1 | refine below_set ?_ GE195.out | refine below_set ?_ GE203.out | refine below_set ?_ GE225.out) | exact HB.out))) | (with_reducible refine Kd.C_alloc ?_ _) | (with_reducible refine Kd.C_drewN ?_ _) | (with_reducible refine Kd.C_drew ?_))); (case side2 => exact HC2.out); rintro e w' ⟨rfl, ⟨nd, rfl⟩⟩))
                                go_roundg k3
                                case measure => have := HJ5.out; have := HJ13.out; have := HK3.out; omega
                                case rel => exact ⟨(wrap64 (x20_3 + 1)), (by first | rfl | (simp; done) | (simp [*]; done)), H', ⟨by have := HJ5.out; have := HJ13.out; have := HK3.out; omega⟩, ⟨by (with_reducible repeat (first | apply Kd.V_alloc | apply Kd.V_drewN | apply Kd.V_drew)); exact HO_204001.out⟩, ⟨by (with_reducible repeat (first | apply Kd.R_alloc | apply Kd.R_drewN | apply Kd.R_drew)); exact HO_226001.out⟩, ⟨by (with_reducible repeat (first | refine blk_drewN ?_ _ | refine blk_drew ?_ | refine blk_alloc ?_ _)); exact BK195.out⟩, ⟨by (with_reducible repeat (first | refine blk_drewN ?_ _ | refine blk_drew ?_ | refine blk_alloc ?_ _)); exact BK203.out⟩, ⟨by (with_reducible repeat (first | refine blk_drewN ?_ _ | refine blk_drew ?_ | refine blk_alloc ?_ _)); exact BK225.out⟩, ⟨by repeat (first | (with_reducible first | exact HB.out | apply below_alloc | apply q5_ | apply below_drew1 | refine below_set ?_ GE195.out | refine below_set ?_ GE203.out | refine below_set ?_ GE225.out) | exact HB.out)⟩⟩
                          · rw [if_neg c116] at H
                            have c116b0 : (t229.toList == t231.toList) = false := beq_eq_false_iff_ne.mpr c116
                            have c116b1 : (t229.toList != t231.toList) = true := bne_iff_ne.mpr c116
                            obtain rfl := Option.some.inj H
                            have hnb141 := NB195_203.out
                            have hnc141 := NB203_195.out
                            have hnb142 := NB195_225.out
                            have hnc142 := NB225_195.out
                            have hcz143_0 : wr.cell? ⟨gb195, 0, none⟩ = some (.int .i64 a0_0) := (blk_cell BK195.out 0).trans rfl
                            have hcz143_1 : wr.cell? ⟨gb195, 1, none⟩ = some (.slice A0_1 l0_1.length c0_1) := (blk_cell BK195.out 1).trans rfl
                            have hfz143_0 := blk_frozen BK195.out 0
                            have hfz143_1 := blk_frozen BK195.out 1
                            have p228 : 0 ≤ (x20_3 : Int) := of_decide_eq_true (by first | (with_reducible assumption) | assumption)
                            have q228 : x20_3 < (l0_1.length : Int) := of_decide_eq_true (by first | (with_reducible assumption) | assumption)
                            obtain ⟨ad228, e228, hx228_0, hx228_1⟩ := at_T39 HR0_1.out x20_3 p228 q228
                            cases e228
                            replace hx228_0 := (HB.out.cell (World.block_lt_of_cell? w _ hx228_0)).trans hx228_0
                            replace hx228_1 := (HB.out.cell (World.block_lt_of_cell? w _ hx228_1)).trans hx228_1
                            replace p228 := eq_true p228
                            replace q228 := eq_true q228
                            go_wp2_with (first | ((with_reducible refine gate_callee (f := 15) rfl ?_); refine goesL_ (some 148) rfl rfl Try.func15 (by kernel_rfl) rfl #[.agg #[.int .i64 a0_0, .slice (some ad228) l0_1.length c0_1], .int .i64 ((rd_T39 l0_1 x20_3).f0)] rfl (by (try simp only [List.map_toArray, List.map_cons, List.map_nil]); first | done | rfl | (simp only [List.length_drop, List.length_take]; rfl)) ?_; (with_reducible refine (blob_Get.calls k3 a0_0 _ _ l0_1 ((rd_T39 l0_1 x20_3).f0) t229 t230 _ ?side1 ?side2 A104.out).mono ?_); (case side1 => repeat (first | exact (Kd.C_below HR0_1.out HB.out) | (with_reducible refine Kd.C_alloc ?_ _) | (with_reducible refine Kd.C_drewN ?_ _) | (with_reducible refine Kd.C_drew ?_))); (case side2 => exact HC0_1.out); rintro e w144 ⟨rfl, hb⟩; refine ⟨_, rfl, ?_⟩; have n0_ := a5_ (Kd.V_below (by (with_reducible repeat (first | apply Kd.V_alloc | apply Kd.V_drewN | apply Kd.V_drew)); exact HO_204001.out) hb); have n1_ := a5_ (Kd.R_below (by (with_reducible repeat (first | apply Kd.R_alloc | apply Kd.R_drewN | apply Kd.R_drew)); exact HO_226001.out) hb); have n2_ := a5_ (blk_below (g := gb195) (o := .cells #[.int .i64 a0_0, .slice (some ad228) l0_1.length c0_1] 24 (0, 0)) (by (with_reducible repeat (first | refine blk_drewN ?_ _ | refine blk_drew ?_ | refine blk_alloc ?_ _)); exact BK195.out) hb); have n3_ := a5_ (blk_below (g := gb203) (o := .cells #[.int .i64 t197, .slice Ao20 t198.length co20] 24 (0, 0)) (by (with_reducible repeat (first | refine blk_drewN ?_ _ | refine blk_drew ?_ | refine blk_alloc ?_ _)); exact BK203.out) hb); have n4_ := a5_ (blk_below (g := gb225) (o := .cells #[.int .i64 t221, .slice Ao101 t222.length co101] 24 (0, 0)) (by (with_reducible repeat (first | refine blk_drewN ?_ _ | refine blk_drew ?_ | refine blk_alloc ?_ _)); exact BK225.out) hb); have n5_ := a5_ (below_step (by repeat (first | (with_reducible first | exact HB.out | apply below_alloc | apply q5_ | apply below_drew1 | refine below_set ?_ GE195.out | refine below_set ?_ GE203.out | refine below_set ?_ GE225.out) | exact HB.out)) hb); clear HO_204001; clear HO_226001; clear BK195; clear BK203; clear BK225; clear HB; have HO_204001 := n0_; have HO_226001 := n1_; have BK195 := n2_; have BK203 := n3_; have BK225 := n4_; have HB := n5_; clear n0_ n1_ n2_ n3_ n4_ n5_; (try clear hb); (try clear hb2); (try clear hk); (try clear hi); have hnb145 := NB225_203.out; have hnc145 := NB203_225.out; have hcz146_0 : w144.cell? ⟨gb225, 0, none⟩ = some (.int .i64 t221) := (blk_cell BK225.out 0).trans rfl; have hcz146_1 : w144.cell? ⟨gb225, 1, none⟩ = some (.slice Ao101 t222.length co101) := (blk_cell BK225.out 1).trans rfl; have hfz146_0 := blk_frozen BK225.out 0; have hfz146_1 := blk_frozen BK225.out 1) | ((with_reducible refine gate_callee (f := 15) rfl ?_); refine goesL_ (some 154) rfl rfl Try.func15 (by kernel_rfl) rfl #[.agg #[.int .i64 t221, .slice Ao101 t222.length co101], .int .i64 ((rd_T39 l0_1 x20_3).f0)] rfl (by (try simp only [List.map_toArray, List.map_cons, List.map_nil]); first | done | rfl | (simp only [List.length_drop, List.length_take]; rfl)) ?_; (with_reducible refine (blob_Get.calls k3 t221 _ _ t222 ((rd_T39 l0_1 x20_3).f0) t231 t232 _ ?side1 ?side2 A105.out).mono ?_); (case side1 => repeat (first | exact (Kd.R_reads' HO_226001.out).2.2 | (with_reducible refine Kd.C_alloc ?_ _) | (with_reducible refine Kd.C_drewN ?_ _) | (with_reducible refine Kd.C_drew ?_))); (case side2 => exact (Kd.R_reads' HO_226001.out).2.1); rintro e w147 ⟨rfl, hb⟩; refine ⟨_, rfl, ?_⟩; have n0_ := a5_ (Kd.V_below (by (with_reducible repeat (first | apply Kd.V_alloc | apply Kd.V_drewN | apply Kd.V_drew)); exact HO_204001.out) hb); have n1_ := a5_ (Kd.R_below (by (with_reducible repeat (first | apply Kd.R_alloc | apply Kd.R_drewN | apply Kd.R_drew)); exact HO_226001.out) hb); have n2_ := a5_ (blk_below (g := gb195) (o := .cells #[.int .i64 a0_0, .slice (some ad228) l0_1.length c0_1] 24 (0, 0)) (by (with_reducible repeat (first | refine blk_drewN ?_ _ | refine blk_drew ?_ | refine blk_alloc ?_ _)); exact BK195.out) hb); have n3_ := a5_ (blk_below (g := gb203) (o := .cells #[.int .i64 t197, .slice Ao20 t198.length co20] 24 (0, 0)) (by (with_reducible repeat (first | refine blk_drewN ?_ _ | refine blk_drew ?_ | refine blk_alloc ?_ _)); exact BK203.out) hb); have n4_ := a5_ (blk_below (g := gb225) (o := .cells #[.int .i64 t221, .slice Ao101 t222.length co101] 24 (0, 0)) (by (with_reducible repeat (first | refine blk_drewN ?_ _ | refine blk_drew ?_ | refine blk_alloc ?_ _)); exact BK225.out) hb); have n5_ := a5_ (below_step (by repeat (first | (with_reducible first | exact HB.out | apply below_alloc | apply q5_ | apply below_drew1 | refine below_set ?_ GE195.out | refine below_set ?_ GE203.out | refine below_set ?_ GE225.out) | exact HB.out)) hb); clear HO_204001; clear HO_226001; clear BK195; clear BK203; clear BK225; clear HB; have HO_204001 := n0_; have HO_226001 := n1_; have BK195 := n2_; have BK203 := n3_; have BK225 := n4_; have HB := n5_; clear n0_ n1_ n2_ n3_ n4_ n5_; (try clear hb); (try clear hb2); (try clear hk); (try clear hi)) | ((with_reducible refine gate_callee (f := 17) rfl ?_); refine goesL_ (some 159) rfl rfl Try.func17 (by kernel_rfl) rfl #[.slice A2 l2.length c2, .int .i64 ((rd_T39 l0_1 x20_3).f0)] rfl (by (try simp only [List.map_toArray, List.map_cons, List.map_nil]); first | done | rfl | (simp only [List.length_drop, List.length_take]; rfl)) ?_; (with_reducible refine (codesearchlaw24_has.calls k3 _ _ l2 ((rd_T39 l0_1 x20_3).f0) true _ ?side1 ?side2 A106.out).mono ?_); (case side1 => repeat (first | exact (Kd.C_below HR2.out HB.out) | (with_reducible refine Kd.C_alloc ?_ _) | (with_reducible refine Kd.C_drewN ?_ _) | (with_reducible refine Kd.C_drew ?_))); (case side2 => exact HC2.out); rintro e w' ⟨rfl, ⟨nd, rfl⟩⟩; refine ⟨_, rfl, ?_⟩))
                            go_ret
                            exact ⟨by first | rfl | (simp [errW_none, errW_some] <;> rfl) | (simp [*, errW_none, errW_some] <;> rfl), by repeat (first | (with_reducible first | exact HB.out | apply below_alloc | apply q5_ | apply below_drew1 | refine below_set ?_ GE195.out | refine below_set ?_ GE203.out | refine below_set ?_ GE225.out) | exact HB.out)⟩
                      · replace c107 := Bool.eq_false_iff.mpr c107
                        subst c107
                        have H1 : ((codesearchlaw24_has.f k3 l2 ((rd_T39 l0_1 x20_3).f0)).bind fun t235 => (if t235 = true then (codesearchlaw24_BlobShares.l1 k3 l2 (wrap64 (x20_3 + 1)) a0_0 l0_1 t221 t222) else (if t232 = true then (some false) else (codesearchlaw24_BlobShares.l1 k3 l2 (wrap64 (x20_3 + 1)) a0_0 l0_1 t221 t222)))) = some r := by rw [if_neg (show ¬ (false = true) by decide)] at H; exact H
                        clear H
                        have H := H1
                        clear H1
                        replace H := Option.bind_eq_some_iff.mp H
                        obtain ⟨t235, A1480, H⟩ := H
                        replace H : (if t235 = true then (codesearchlaw24_BlobShares.l1 k3 l2 (wrap64 (x20_3 + 1)) a0_0 l0_1 t221 t222) else (if t232 = true then (some false) else (codesearchlaw24_BlobShares.l1 k3 l2 (wrap64 (x20_3 + 1)) a0_0 l0_1 t221 t222))) = some r := H
                        have A148 := a5_ A1480
                        clear A1480
                        by_cases c149 : t235 = true
                        · subst c149
                          have H1 : (codesearchlaw24_BlobShares.l1 k3 l2 (wrap64 (x20_3 + 1)) a0_0 l0_1 t221 t222) = some r := by rw [if_pos rfl] at H; exact H
                          clear H
                          have H := H1
                          clear H1
                          have H' := a5_ H
                          clear H
                          have hnb150 := NB195_203.out
                          have hnc150 := NB203_195.out
                          have hnb151 := NB195_225.out
                          have hnc151 := NB225_195.out
                          have hcz152_0 : wr.cell? ⟨gb195, 0, none⟩ = some (.int .i64 a0_0) := (blk_cell BK195.out 0).trans rfl
                          have hcz152_1 : wr.cell? ⟨gb195, 1, none⟩ = some (.slice A0_1 l0_1.length c0_1) := (blk_cell BK195.out 1).trans rfl
                          have hfz152_0 := blk_frozen BK195.out 0
                          have hfz152_1 := blk_frozen BK195.out 1
                          have p228 : 0 ≤ (x20_3 : Int) := of_decide_eq_true (by first | (with_reducible assumption) | assumption)
                          have q228 : x20_3 < (l0_1.length : Int) := of_decide_eq_true (by first | (with_reducible assumption) | assumption)
                          obtain ⟨ad228, e228, hx228_0, hx228_1⟩ := at_T39 HR0_1.out x20_3 p228 q228
                          cases e228
                          replace hx228_0 := (HB.out.cell (World.block_lt_of_cell? w _ hx228_0)).trans hx228_0
                          replace hx228_1 := (HB.out.cell (World.block_lt_of_cell? w _ hx228_1)).trans hx228_1
                          replace p228 := eq_true p228
                          replace q228 := eq_true q228
                          go_wp2_with (first | ((with_reducible refine gate_callee (f := 15) rfl ?_); refine goesL_ (some 148) rfl rfl Try.func15 (by kernel_rfl) rfl #[.agg #[.int .i64 a0_0, .slice (some ad228) l0_1.length c0_1], .int .i64 ((rd_T39 l0_1 x20_3).f0)] rfl (by (try simp only [List.map_toArray, List.map_cons, List.map_nil]); first | done | rfl | (simp only [List.length_drop, List.length_take]; rfl)) ?_; (with_reducible refine (blob_Get.calls k3 a0_0 _ _ l0_1 ((rd_T39 l0_1 x20_3).f0) t229 t230 _ ?side1 ?side2 A104.out).mono ?_); (case side1 => repeat (first | exact (Kd.C_below HR0_1.out HB.out) | (with_reducible refine Kd.C_alloc ?_ _) | (with_reducible refine Kd.C_drewN ?_ _) | (with_reducible refine Kd.C_drew ?_))); (case side2 => exact HC0_1.out); rintro e w153 ⟨rfl, hb⟩; refine ⟨_, rfl, ?_⟩; have n0_ := a5_ (Kd.V_below (by (with_reducible repeat (first | apply Kd.V_alloc | apply Kd.V_drewN | apply Kd.V_drew)); exact HO_204001.out) hb); have n1_ := a5_ (Kd.R_below (by (with_reducible repeat (first | apply Kd.R_alloc | apply Kd.R_drewN | apply Kd.R_drew)); exact HO_226001.out) hb); have n2_ := a5_ (blk_below (g := gb195) (o := .cells #[.int .i64 a0_0, .slice (some ad228) l0_1.length c0_1] 24 (0, 0)) (by (with_reducible repeat (first | refine blk_drewN ?_ _ | refine blk_drew ?_ | refine blk_alloc ?_ _)); exact BK195.out) hb); have n3_ := a5_ (blk_below (g := gb203) (o := .cells #[.int .i64 t197, .slice Ao20 t198.length co20] 24 (0, 0)) (by (with_reducible repeat (first | refine blk_drewN ?_ _ | refine blk_drew ?_ | refine blk_alloc ?_ _)); exact BK203.out) hb); have n4_ := a5_ (blk_below (g := gb225) (o := .cells #[.int .i64 t221, .slice Ao101 t222.length co101] 24 (0, 0)) (by (with_reducible repeat (first | refine blk_drewN ?_ _ | refine blk_drew ?_ | refine blk_alloc ?_ _)); exact BK225.out) hb); have n5_ := a5_ (below_step (by repeat (first | (with_reducible first | exact HB.out | apply below_alloc | apply q5_ | apply below_drew1 | refine below_set ?_ GE195.out | refine below_set ?_ GE203.out | refine below_set ?_ GE225.out) | exact HB.out)) hb); clear HO_204001; clear HO_226001; clear BK195; clear BK203; clear BK225; clear HB; have HO_204001 := n0_; have HO_226001 := n1_; have BK195 := n2_; have BK203 := n3_; have BK225 := n4_; have HB := n5_; clear n0_ n1_ n2_ n3_ n4_ n5_; (try clear hb); (try clear hb2); (try clear hk); (try clear hi); have hnb154 := NB225_203.out; have hnc154 := NB203_225.out; have hcz155_0 : w153.cell? ⟨gb225, 0, none⟩ = some (.int .i64 t221) := (blk_cell BK225.out 0).trans rfl; have hcz155_1 : w153.cell? ⟨gb225, 1, none⟩ = some (.slice Ao101 t222.length co101) := (blk_cell BK225.out 1).trans rfl; have hfz155_0 := blk_frozen BK225.out 0; have hfz155_1 := blk_frozen BK225.out 1) | ((with_reducible refine gate_callee (f := 15) rfl ?_); refine goesL_ (some 154) rfl rfl Try.func15 (by kernel_rfl) rfl #[.agg #[.int .i64 t221, .slice Ao101 t222.length co101], .int .i64 ((rd_T39 l0_1 x20_3).f0)] rfl (by (try simp only [List.map_toArray, List.map_cons, List.map_nil]); first | done | rfl | (simp only [List.length_drop, List.length_take]; rfl)) ?_; (with_reducible refine (blob_Get.calls k3 t221 _ _ t222 ((rd_T39 l0_1 x20_3).f0) t231 t232 _ ?side1 ?side2 A105.out).mono ?_); (case side1 => repeat (first | exact (Kd.R_reads' HO_226001.out).2.2 | (with_reducible refine Kd.C_alloc ?_ _) | (with_reducible refine Kd.C_drewN ?_ _) | (with_reducible refine Kd.C_drew ?_))); (case side2 => exact (Kd.R_reads' HO_226001.out).2.1); rintro e w156 ⟨rfl, hb⟩; refine ⟨_, rfl, ?_⟩; have n0_ := a5_ (Kd.V_below (by (with_reducible repeat (first | apply Kd.V_alloc | apply Kd.V_drewN | apply Kd.V_drew)); exact HO_204001.out) hb); have n1_ := a5_ (Kd.R_below (by (with_reducible repeat (first | apply Kd.R_alloc | apply Kd.R_drewN | apply Kd.R_drew)); exact HO_226001.out) hb); have n2_ := a5_ (blk_below (g := gb195) (o := .cells #[.int .i64 a0_0, .slice (some ad228) l0_1.length c0_1] 24 (0, 0)) (by (with_reducible repeat (first | refine blk_drewN ?_ _ | refine blk_drew ?_ | refine blk_alloc ?_ _)); exact BK195.out) hb); have n3_ := a5_ (blk_below (g := gb203) (o := .cells #[.int .i64 t197, .slice Ao20 t198.length co20] 24 (0, 0)) (by (with_reducible repeat (first | refine blk_drewN ?_ _ | refine blk_drew ?_ | refine blk_alloc ?_ _)); exact BK203.out) hb); have n4_ := a5_ (blk_below (g := gb225) (o := .cells #[.int .i64 t221, .slice Ao101 t222.length co101] 24 (0, 0)) (by (with_reducible repeat (first | refine blk_drewN ?_ _ | refine blk_drew ?_ | refine blk_alloc ?_ _)); exact BK225.out) hb); have n5_ := a5_ (below_step (by repeat (first | (with_reducible first | exact HB.out | apply below_alloc | apply q5_ | apply below_drew1 | refine below_set ?_ GE195.out | refine below_set ?_ GE203.out | refine below_set ?_ GE225.out) | exact HB.out)) hb); clear HO_204001; clear HO_226001; clear BK195; clear BK203; clear BK225; clear HB; have HO_204001 := n0_; have HO_226001 := n1_; have BK195 := n2_; have BK203 := n3_; have BK225 := n4_; have HB := n5_; clear n0_ n1_ n2_ n3_ n4_ n5_; (try clear hb); (try clear hb2); (try clear hk); (try clear hi)) | ((with_reducible refine gate_callee (f := 17) rfl ?_); refine goesL_ (some 159) rfl rfl Try.func17 (by kernel_rfl) rfl #[.slice A2 l2.length c2, .int .i64 ((rd_T39 l0_1 x20_3).f0)] rfl (by (try simp only [List.map_toArray, List.map_cons, List.map_nil]); first | done | rfl | (simp only [List.length_drop, List.length_take]; rfl)) ?_; (with_reducible refine (codesearchlaw24_has.calls k3 _ _ l2 ((rd_T39 l0_1 x20_3).f0) false _ ?side1 ?side2 A106.out).mono ?_); (case side1 => repeat (first | exact (Kd.C_below HR2.out HB.out) | (with_reducible refine Kd.C_alloc ?_ _) | (with_reducible refine Kd.C_drewN ?_ _) | (with_reducible refine Kd.C_drew ?_))); (case side2 => exact HC2.out); rintro e w' ⟨rfl, ⟨nd, rfl⟩⟩; refine ⟨_, rfl, ?_⟩) | (go_at_call 17; (with_reducible refine (codesearchlaw24_has.calls k3 _ _ l2 ((rd_T39 l0_1 x20_3).f0) true _ ?side1 ?side2 A148.out).mono ?_); (case side1 => repeat (first | exact (Kd.C_below HR2.out (by repeat (first | (with_reducible first | exact HB.out | apply below_alloc | apply q5_ | apply below_drew1 | refine below_set ?_ GE195.out | refine below_set ?_ GE203.out | refine below_set ?_ GE225.out) | exact HB.out))) | (with_reducible refine Kd.C_alloc ?_ _) | (with_reducible refine Kd.C_drewN ?_ _) | (with_reducible refine Kd.C_drew ?_))); (case side2 => exact HC2.out); rintro e w' ⟨rfl, ⟨nd, rfl⟩⟩))
                          go_roundg k3
                          case measure => have := HJ5.out; have := HJ13.out; have := HK3.out; omega
                          case rel => exact ⟨(wrap64 (x20_3 + 1)), (by first | rfl | (simp; done) | (simp [*]; done)), H', ⟨by have := HJ5.out; have := HJ13.out; have := HK3.out; omega⟩, ⟨by (with_reducible repeat (first | apply Kd.V_alloc | apply Kd.V_drewN | apply Kd.V_drew)); exact HO_204001.out⟩, ⟨by (with_reducible repeat (first | apply Kd.R_alloc | apply Kd.R_drewN | apply Kd.R_drew)); exact HO_226001.out⟩, ⟨by (with_reducible repeat (first | refine blk_drewN ?_ _ | refine blk_drew ?_ | refine blk_alloc ?_ _)); exact BK195.out⟩, ⟨by (with_reducible repeat (first | refine blk_drewN ?_ _ | refine blk_drew ?_ | refine blk_alloc ?_ _)); exact BK203.out⟩, ⟨by (with_reducible repeat (first | refine blk_drewN ?_ _ | refine blk_drew ?_ | refine blk_alloc ?_ _)); exact BK225.out⟩, ⟨by repeat (first | (with_reducible first | exact HB.out | apply below_alloc | apply q5_ | apply below_drew1 | refine below_set ?_ GE195.out | refine below_set ?_ GE203.out | refine below_set ?_ GE225.out) | exact HB.out)⟩⟩
                        · replace c149 := Bool.eq_false_iff.mpr c149
                          subst c149
                          have H1 : (if t232 = true then (some false) else (codesearchlaw24_BlobShares.l1 k3 l2 (wrap64 (x20_3 + 1)) a0_0 l0_1 t221 t222)) = some r := by rw [if_neg (show ¬ (false = true) by decide)] at H; exact H
                          clear H
                          have H := H1
                          clear H1
                          by_cases c157 : t232 = true
                          · subst c157
                            have H1 : (some false) = some r := by rw [if_pos rfl] at H; exact H
                            clear H
                            have H := H1
                            clear H1
                            obtain rfl := Option.some.inj H
                            have hnb158 := NB195_203.out
                            have hnc158 := NB203_195.out
                            have hnb159 := NB195_225.out
                            have hnc159 := NB225_195.out
                            have hcz160_0 : wr.cell? ⟨gb195, 0, none⟩ = some (.int .i64 a0_0) := (blk_cell BK195.out 0).trans rfl
                            have hcz160_1 : wr.cell? ⟨gb195, 1, none⟩ = some (.slice A0_1 l0_1.length c0_1) := (blk_cell BK195.out 1).trans rfl
                            have hfz160_0 := blk_frozen BK195.out 0
                            have hfz160_1 := blk_frozen BK195.out 1
                            have p228 : 0 ≤ (x20_3 : Int) := of_decide_eq_true (by first | (with_reducible assumption) | assumption)
                            have q228 : x20_3 < (l0_1.length : Int) := of_decide_eq_true (by first | (with_reducible assumption) | assumption)
                            obtain ⟨ad228, e228, hx228_0, hx228_1⟩ := at_T39 HR0_1.out x20_3 p228 q228
                            cases e228
                            replace hx228_0 := (HB.out.cell (World.block_lt_of_cell? w _ hx228_0)).trans hx228_0
                            replace hx228_1 := (HB.out.cell (World.block_lt_of_cell? w _ hx228_1)).trans hx228_1
                            replace p228 := eq_true p228
                            replace q228 := eq_true q228
                            go_wp2_with (first | ((with_reducible refine gate_callee (f := 15) rfl ?_); refine goesL_ (some 148) rfl rfl Try.func15 (by kernel_rfl) rfl #[.agg #[.int .i64 a0_0, .slice (some ad228) l0_1.length c0_1], .int .i64 ((rd_T39 l0_1 x20_3).f0)] rfl (by (try simp only [List.map_toArray, List.map_cons, List.map_nil]); first | done | rfl | (simp only [List.length_drop, List.length_take]; rfl)) ?_; (with_reducible refine (blob_Get.calls k3 a0_0 _ _ l0_1 ((rd_T39 l0_1 x20_3).f0) t229 t230 _ ?side1 ?side2 A104.out).mono ?_); (case side1 => repeat (first | exact (Kd.C_below HR0_1.out HB.out) | (with_reducible refine Kd.C_alloc ?_ _) | (with_reducible refine Kd.C_drewN ?_ _) | (with_reducible refine Kd.C_drew ?_))); (case side2 => exact HC0_1.out); rintro e w161 ⟨rfl, hb⟩; refine ⟨_, rfl, ?_⟩; have n0_ := a5_ (Kd.V_below (by (with_reducible repeat (first | apply Kd.V_alloc | apply Kd.V_drewN | apply Kd.V_drew)); exact HO_204001.out) hb); have n1_ := a5_ (Kd.R_below (by (with_reducible repeat (first | apply Kd.R_alloc | apply Kd.R_drewN | apply Kd.R_drew)); exact HO_226001.out) hb); have n2_ := a5_ (blk_below (g := gb195) (o := .cells #[.int .i64 a0_0, .slice (some ad228) l0_1.length c0_1] 24 (0, 0)) (by (with_reducible repeat (first | refine blk_drewN ?_ _ | refine blk_drew ?_ | refine blk_alloc ?_ _)); exact BK195.out) hb); have n3_ := a5_ (blk_below (g := gb203) (o := .cells #[.int .i64 t197, .slice Ao20 t198.length co20] 24 (0, 0)) (by (with_reducible repeat (first | refine blk_drewN ?_ _ | refine blk_drew ?_ | refine blk_alloc ?_ _)); exact BK203.out) hb); have n4_ := a5_ (blk_below (g := gb225) (o := .cells #[.int .i64 t221, .slice Ao101 t222.length co101] 24 (0, 0)) (by (with_reducible repeat (first | refine blk_drewN ?_ _ | refine blk_drew ?_ | refine blk_alloc ?_ _)); exact BK225.out) hb); have n5_ := a5_ (below_step (by repeat (first | (with_reducible first | exact HB.out | apply below_alloc | apply q5_ | apply below_drew1 | refine below_set ?_ GE195.out | refine below_set ?_ GE203.out | refine below_set ?_ GE225.out) | exact HB.out)) hb); clear HO_204001; clear HO_226001; clear BK195; clear BK203; clear BK225; clear HB; have HO_204001 := n0_; have HO_226001 := n1_; have BK195 := n2_; have BK203 := n3_; have BK225 := n4_; have HB := n5_; clear n0_ n1_ n2_ n3_ n4_ n5_; (try clear hb); (try clear hb2); (try clear hk); (try clear hi); have hnb162 := NB225_203.out; have hnc162 := NB203_225.out; have hcz163_0 : w161.cell? ⟨gb225, 0, none⟩ = some (.int .i64 t221) := (blk_cell BK225.out 0).trans rfl; have hcz163_1 : w161.cell? ⟨gb225, 1, none⟩ = some (.slice Ao101 t222.length co101) := (blk_cell BK225.out 1).trans rfl; have hfz163_0 := blk_frozen BK225.out 0; have hfz163_1 := blk_frozen BK225.out 1) | ((with_reducible refine gate_callee (f := 15) rfl ?_); refine goesL_ (some 154) rfl rfl Try.func15 (by kernel_rfl) rfl #[.agg #[.int .i64 t221, .slice Ao101 t222.length co101], .int .i64 ((rd_T39 l0_1 x20_3).f0)] rfl (by (try simp only [List.map_toArray, List.map_cons, List.map_nil]); first | done | rfl | (simp only [List.length_drop, List.length_take]; rfl)) ?_; (with_reducible refine (blob_Get.calls k3 t221 _ _ t222 ((rd_T39 l0_1 x20_3).f0) t231 true _ ?side1 ?side2 A105.out).mono ?_); (case side1 => repeat (first | exact (Kd.R_reads' HO_226001.out).2.2 | (with_reducible refine Kd.C_alloc ?_ _) | (with_reducible refine Kd.C_drewN ?_ _) | (with_reducible refine Kd.C_drew ?_))); (case side2 => exact (Kd.R_reads' HO_226001.out).2.1); rintro e w164 ⟨rfl, hb⟩; refine ⟨_, rfl, ?_⟩; have n0_ := a5_ (Kd.V_below (by (with_reducible repeat (first | apply Kd.V_alloc | apply Kd.V_drewN | apply Kd.V_drew)); exact HO_204001.out) hb); have n1_ := a5_ (Kd.R_below (by (with_reducible repeat (first | apply Kd.R_alloc | apply Kd.R_drewN | apply Kd.R_drew)); exact HO_226001.out) hb); have n2_ := a5_ (blk_below (g := gb195) (o := .cells #[.int .i64 a0_0, .slice (some ad228) l0_1.length c0_1] 24 (0, 0)) (by (with_reducible repeat (first | refine blk_drewN ?_ _ | refine blk_drew ?_ | refine blk_alloc ?_ _)); exact BK195.out) hb); have n3_ := a5_ (blk_below (g := gb203) (o := .cells #[.int .i64 t197, .slice Ao20 t198.length co20] 24 (0, 0)) (by (with_reducible repeat (first | refine blk_drewN ?_ _ | refine blk_drew ?_ | refine blk_alloc ?_ _)); exact BK203.out) hb); have n4_ := a5_ (blk_below (g := gb225) (o := .cells #[.int .i64 t221, .slice Ao101 t222.length co101] 24 (0, 0)) (by (with_reducible repeat (first | refine blk_drewN ?_ _ | refine blk_drew ?_ | refine blk_alloc ?_ _)); exact BK225.out) hb); have n5_ := a5_ (below_step (by repeat (first | (with_reducible first | exact HB.out | apply below_alloc | apply q5_ | apply below_drew1 | refine below_set ?_ GE195.out | refine below_set ?_ GE203.out | refine below_set ?_ GE225.out) | exact HB.out)) hb); clear HO_204001; clear HO_226001; clear BK195; clear BK203; clear BK225; clear HB; have HO_204001 := n0_; have HO_226001 := n1_; have BK195 := n2_; have BK203 := n3_; have BK225 := n4_; have HB := n5_; clear n0_ n1_ n2_ n3_ n4_ n5_; (try clear hb); (try clear hb2); (try clear hk); (try clear hi)) | ((with_reducible refine gate_callee (f := 17) rfl ?_); refine goesL_ (some 159) rfl rfl Try.func17 (by kernel_rfl) rfl #[.slice A2 l2.length c2, .int .i64 ((rd_T39 l0_1 x20_3).f0)] rfl (by (try simp only [List.map_toArray, List.map_cons, List.map_nil]); first | done | rfl | (simp only [List.length_drop, List.length_take]; rfl)) ?_; (with_reducible refine (codesearchlaw24_has.calls k3 _ _ l2 ((rd_T39 l0_1 x20_3).f0) false _ ?side1 ?side2 A106.out).mono ?_); (case side1 => repeat (first | exact (Kd.C_below HR2.out HB.out) | (with_reducible refine Kd.C_alloc ?_ _) | (with_reducible refine Kd.C_drewN ?_ _) | (with_reducible refine Kd.C_drew ?_))); (case side2 => exact HC2.out); rintro e w' ⟨rfl, ⟨nd, rfl⟩⟩; refine ⟨_, rfl, ?_⟩) | (go_at_call 17; (with_reducible refine (codesearchlaw24_has.calls k3 _ _ l2 ((rd_T39 l0_1 x20_3).f0) false _ ?side1 ?side2 A148.out).mono ?_); (case side1 => repeat (first | exact (Kd.C_below HR2.out (by repeat (first | (with_reducible first | exact HB.out | apply below_alloc | apply q5_ | apply below_drew1 | refine below_set ?_ GE195.out | refine below_set ?_ GE203.out | refine below_set ?_ GE225.out) | exact HB.out))) | (with_reducible refine Kd.C_alloc ?_ _) | (with_reducible refine Kd.C_drewN ?_ _) | (with_reducible refine Kd.C_drew ?_))); (case side2 => exact HC2.out); rintro e w' ⟨rfl, ⟨nd, rfl⟩⟩))
                            go_ret
                            exact ⟨by first | rfl | (simp [errW_none, errW_some] <;> rfl) | (simp [*, errW_none, errW_some] <;> rfl), by repeat (first | (with_reducible first | exact HB.out | apply below_alloc | apply q5_ | apply below_drew1 | refine below_set ?_ GE195.out | refine below_set ?_ GE203.out | refine below_set ?_ GE225.out) | exact HB.out)⟩
                          · replace c157 := Bool.eq_false_iff.mpr c157
                            subst c157
                            have H1 : (codesearchlaw24_BlobShares.l1 k3 l2 (wrap64 (x20_3 + 1)) a0_0 l0_1 t221 t222) = some r := by rw [if_neg (show ¬ (false = true) by decide)] at H; exact H
                            clear H
                            have H := H1
                            clear H1
                            have H' := a5_ H
                            clear H
                            have hnb165 := NB195_203.out
                            have hnc165 := NB203_195.out
                            have hnb166 := NB195_225.out
                            have hnc166 := NB225_195.out
                            have hcz167_0 : wr.cell? ⟨gb195, 0, none⟩ = some (.int .i64 a0_0) := (blk_cell BK195.out 0).trans rfl
                            have hcz167_1 : wr.cell? ⟨gb195, 1, none⟩ = some (.slice A0_1 l0_1.length c0_1) := (blk_cell BK195.out 1).trans rfl
                            have hfz167_0 := blk_frozen BK195.out 0
                            have hfz167_1 := blk_frozen BK195.out 1
                            have p228 : 0 ≤ (x20_3 : Int) := of_decide_eq_true (by first | (with_reducible assumption) | assumption)
                            have q228 : x20_3 < (l0_1.length : Int) := of_decide_eq_true (by first | (with_reducible assumption) | assumption)
                            obtain ⟨ad228, e228, hx228_0, hx228_1⟩ := at_T39 HR0_1.out x20_3 p228 q228
                            cases e228
                            replace hx228_0 := (HB.out.cell (World.block_lt_of_cell? w _ hx228_0)).trans hx228_0
                            replace hx228_1 := (HB.out.cell (World.block_lt_of_cell? w _ hx228_1)).trans hx228_1
                            replace p228 := eq_true p228
                            replace q228 := eq_true q228
                            go_wp2_with (first | ((with_reducible refine gate_callee (f := 15) rfl ?_); refine goesL_ (some 148) rfl rfl Try.func15 (by kernel_rfl) rfl #[.agg #[.int .i64 a0_0, .slice (some ad228) l0_1.length c0_1], .int .i64 ((rd_T39 l0_1 x20_3).f0)] rfl (by (try simp only [List.map_toArray, List.map_cons, List.map_nil]); first | done | rfl | (simp only [List.length_drop, List.length_take]; rfl)) ?_; (with_reducible refine (blob_Get.calls k3 a0_0 _ _ l0_1 ((rd_T39 l0_1 x20_3).f0) t229 t230 _ ?side1 ?side2 A104.out).mono ?_); (case side1 => repeat (first | exact (Kd.C_below HR0_1.out HB.out) | (with_reducible refine Kd.C_alloc ?_ _) | (with_reducible refine Kd.C_drewN ?_ _) | (with_reducible refine Kd.C_drew ?_))); (case side2 => exact HC0_1.out); rintro e w168 ⟨rfl, hb⟩; refine ⟨_, rfl, ?_⟩; have n0_ := a5_ (Kd.V_below (by (with_reducible repeat (first | apply Kd.V_alloc | apply Kd.V_drewN | apply Kd.V_drew)); exact HO_204001.out) hb); have n1_ := a5_ (Kd.R_below (by (with_reducible repeat (first | apply Kd.R_alloc | apply Kd.R_drewN | apply Kd.R_drew)); exact HO_226001.out) hb); have n2_ := a5_ (blk_below (g := gb195) (o := .cells #[.int .i64 a0_0, .slice (some ad228) l0_1.length c0_1] 24 (0, 0)) (by (with_reducible repeat (first | refine blk_drewN ?_ _ | refine blk_drew ?_ | refine blk_alloc ?_ _)); exact BK195.out) hb); have n3_ := a5_ (blk_below (g := gb203) (o := .cells #[.int .i64 t197, .slice Ao20 t198.length co20] 24 (0, 0)) (by (with_reducible repeat (first | refine blk_drewN ?_ _ | refine blk_drew ?_ | refine blk_alloc ?_ _)); exact BK203.out) hb); have n4_ := a5_ (blk_below (g := gb225) (o := .cells #[.int .i64 t221, .slice Ao101 t222.length co101] 24 (0, 0)) (by (with_reducible repeat (first | refine blk_drewN ?_ _ | refine blk_drew ?_ | refine blk_alloc ?_ _)); exact BK225.out) hb); have n5_ := a5_ (below_step (by repeat (first | (with_reducible first | exact HB.out | apply below_alloc | apply q5_ | apply below_drew1 | refine below_set ?_ GE195.out | refine below_set ?_ GE203.out | refine below_set ?_ GE225.out) | exact HB.out)) hb); clear HO_204001; clear HO_226001; clear BK195; clear BK203; clear BK225; clear HB; have HO_204001 := n0_; have HO_226001 := n1_; have BK195 := n2_; have BK203 := n3_; have BK225 := n4_; have HB := n5_; clear n0_ n1_ n2_ n3_ n4_ n5_; (try clear hb); (try clear hb2); (try clear hk); (try clear hi); have hnb169 := NB225_203.out; have hnc169 := NB203_225.out; have hcz170_0 : w168.cell? ⟨gb225, 0, none⟩ = some (.int .i64 t221) := (blk_cell BK225.out 0).trans rfl; have hcz170_1 : w168.cell? ⟨gb225, 1, none⟩ = some (.slice Ao101 t222.length co101) := (blk_cell BK225.out 1).trans rfl; have hfz170_0 := blk_frozen BK225.out 0; have hfz170_1 := blk_frozen BK225.out 1) | ((with_reducible refine gate_callee (f := 15) rfl ?_); refine goesL_ (some 154) rfl rfl Try.func15 (by kernel_rfl) rfl #[.agg #[.int .i64 t221, .slice Ao101 t222.length co101], .int .i64 ((rd_T39 l0_1 x20_3).f0)] rfl (by (try simp only [List.map_toArray, List.map_cons, List.map_nil]); first | done | rfl | (simp only [List.length_drop, List.length_take]; rfl)) ?_; (with_reducible refine (blob_Get.calls k3 t221 _ _ t222 ((rd_T39 l0_1 x20_3).f0) t231 false _ ?side1 ?side2 A105.out).mono ?_); (case side1 => repeat (first | exact (Kd.R_reads' HO_226001.out).2.2 | (with_reducible refine Kd.C_alloc ?_ _) | (with_reducible refine Kd.C_drewN ?_ _) | (with_reducible refine Kd.C_drew ?_))); (case side2 => exact (Kd.R_reads' HO_226001.out).2.1); rintro e w171 ⟨rfl, hb⟩; refine ⟨_, rfl, ?_⟩; have n0_ := a5_ (Kd.V_below (by (with_reducible repeat (first | apply Kd.V_alloc | apply Kd.V_drewN | apply Kd.V_drew)); exact HO_204001.out) hb); have n1_ := a5_ (Kd.R_below (by (with_reducible repeat (first | apply Kd.R_alloc | apply Kd.R_drewN | apply Kd.R_drew)); exact HO_226001.out) hb); have n2_ := a5_ (blk_below (g := gb195) (o := .cells #[.int .i64 a0_0, .slice (some ad228) l0_1.length c0_1] 24 (0, 0)) (by (with_reducible repeat (first | refine blk_drewN ?_ _ | refine blk_drew ?_ | refine blk_alloc ?_ _)); exact BK195.out) hb); have n3_ := a5_ (blk_below (g := gb203) (o := .cells #[.int .i64 t197, .slice Ao20 t198.length co20] 24 (0, 0)) (by (with_reducible repeat (first | refine blk_drewN ?_ _ | refine blk_drew ?_ | refine blk_alloc ?_ _)); exact BK203.out) hb); have n4_ := a5_ (blk_below (g := gb225) (o := .cells #[.int .i64 t221, .slice Ao101 t222.length co101] 24 (0, 0)) (by (with_reducible repeat (first | refine blk_drewN ?_ _ | refine blk_drew ?_ | refine blk_alloc ?_ _)); exact BK225.out) hb); have n5_ := a5_ (below_step (by repeat (first | (with_reducible first | exact HB.out | apply below_alloc | apply q5_ | apply below_drew1 | refine below_set ?_ GE195.out | refine below_set ?_ GE203.out | refine below_set ?_ GE225.out) | exact HB.out)) hb); clear HO_204001; clear HO_226001; clear BK195; clear BK203; clear BK225; clear HB; have HO_204001 := n0_; have HO_226001 := n1_; have BK195 := n2_; have BK203 := n3_; have BK225 := n4_; have HB := n5_; clear n0_ n1_ n2_ n3_ n4_ n5_; (try clear hb); (try clear hb2); (try clear hk); (try clear hi)) | ((with_reducible refine gate_callee (f := 17) rfl ?_); refine goesL_ (some 159) rfl rfl Try.func17 (by kernel_rfl) rfl #[.slice A2 l2.length c2, .int .i64 ((rd_T39 l0_1 x20_3).f0)] rfl (by (try simp only [List.map_toArray, List.map_cons, List.map_nil]); first | done | rfl | (simp only [List.length_drop, List.length_take]; rfl)) ?_; (with_reducible refine (codesearchlaw24_has.calls k3 _ _ l2 ((rd_T39 l0_1 x20_3).f0) false _ ?side1 ?side2 A106.out).mono ?_); (case side1 => repeat (first | exact (Kd.C_below HR2.out HB.out) | (with_reducible refine Kd.C_alloc ?_ _) | (with_reducible refine Kd.C_drewN ?_ _) | (with_reducible refine Kd.C_drew ?_))); (case side2 => exact HC2.out); rintro e w' ⟨rfl, ⟨nd, rfl⟩⟩; refine ⟨_, rfl, ?_⟩) | (go_at_call 17; (with_reducible refine (codesearchlaw24_has.calls k3 _ _ l2 ((rd_T39 l0_1 x20_3).f0) false _ ?side1 ?side2 A148.out).mono ?_); (case side1 => repeat (first | exact (Kd.C_below HR2.out (by repeat (first | (with_reducible first | exact HB.out | apply below_alloc | apply q5_ | apply below_drew1 | refine below_set ?_ GE195.out | refine below_set ?_ GE203.out | refine below_set ?_ GE225.out) | exact HB.out))) | (with_reducible refine Kd.C_alloc ?_ _) | (with_reducible refine Kd.C_drewN ?_ _) | (with_reducible refine Kd.C_drew ?_))); (case side2 => exact HC2.out); rintro e w' ⟨rfl, ⟨nd, rfl⟩⟩))
                            go_roundg k3
                            case measure => have := HJ5.out; have := HJ13.out; have := HK3.out; omega
                            case rel => exact ⟨(wrap64 (x20_3 + 1)), (by first | rfl | (simp; done) | (simp [*]; done)), H', ⟨by have := HJ5.out; have := HJ13.out; have := HK3.out; omega⟩, ⟨by (with_reducible repeat (first | apply Kd.V_alloc | apply Kd.V_drewN | apply Kd.V_drew)); exact HO_204001.out⟩, ⟨by (with_reducible repeat (first | apply Kd.R_alloc | apply Kd.R_drewN | apply Kd.R_drew)); exact HO_226001.out⟩, ⟨by (with_reducible repeat (first | refine blk_drewN ?_ _ | refine blk_drew ?_ | refine blk_alloc ?_ _)); exact BK195.out⟩, ⟨by (with_reducible repeat (first | refine blk_drewN ?_ _ | refine blk_drew ?_ | refine blk_alloc ?_ _)); exact BK203.out⟩, ⟨by (with_reducible repeat (first | refine blk_drewN ?_ _ | refine blk_drew ?_ | refine blk_alloc ?_ _)); exact BK225.out⟩, ⟨by repeat (first | (with_reducible first | exact HB.out | apply below_alloc | apply q5_ | apply below_drew1 | refine below_set ?_ GE195.out | refine below_set ?_ GE203.out | refine below_set ?_ GE225.out) | exact HB.out)⟩⟩
                    · rw [if_neg c103] at H
                      exact absurd H (by simp)
                  · rw [if_neg c102] at H
                    have c102b0 : decide (x20_3 < (l0_1.length : Int)) = false := decide_eq_false c102
                    clear c102
                    replace H := Option.bind_eq_some_iff.mp H
                    obtain ⟨t226, A1720, H⟩ := H
                    replace H : (if t226 = 0 then ((blob_Right.f k3 t221 t222).bind fun t227 => (if t227 = 0 then (some (t221 == a0_0)) else (some false))) else (some true)) = some r := H
                    have A172 := a5_ A1720
                    clear A1720
                    by_cases c173 : t226 = 0
                    · rw [if_pos c173] at H
                      have c173b0 : (t226 == 0) = true := beq_iff_eq.mpr c173
                      have c173b1 : (t226 != 0) = false := bne_eq_false_iff_eq.mpr c173
                      clear c173
                      replace H := Option.bind_eq_some_iff.mp H
                      obtain ⟨t227, A1740, H⟩ := H
                      replace H : (if t227 = 0 then (some (t221 == a0_0)) else (some false)) = some r := H
                      have A174 := a5_ A1740
                      clear A1740
                      by_cases c175 : t227 = 0
                      · rw [if_pos c175] at H
                        have c175b0 : (t227 == 0) = true := beq_iff_eq.mpr c175
                        have c175b1 : (t227 != 0) = false := bne_eq_false_iff_eq.mpr c175
                        clear c175
                        obtain rfl := Option.some.inj H
                        have hnb176 := NB195_203.out
                        have hnc176 := NB203_195.out
                        have hnb177 := NB195_225.out
                        have hnc177 := NB225_195.out
                        have hcz178_0 : wr.cell? ⟨gb195, 0, none⟩ = some (.int .i64 a0_0) := (blk_cell BK195.out 0).trans rfl
                        have hcz178_1 : wr.cell? ⟨gb195, 1, none⟩ = some (.slice A0_1 l0_1.length c0_1) := (blk_cell BK195.out 1).trans rfl
                        have hfz178_0 := blk_frozen BK195.out 0
                        have hfz178_1 := blk_frozen BK195.out 1
                        go_wp2_with (first | ((with_reducible refine gate_callee (f := 12) rfl ?_); refine goesL_ (some 180) rfl rfl Try.func12 (by kernel_rfl) rfl #[.agg #[.int .i64 a0_0, .slice A0_1 l0_1.length c0_1]] rfl (by (try simp only [List.map_toArray, List.map_cons, List.map_nil]); first | done | rfl | (simp only [List.length_drop, List.length_take]; rfl)) ?_; (with_reducible refine (blob_Right.calls k3 a0_0 _ _ l0_1 t226 _ ?side1 ?side2 A172.out).mono ?_); (case side1 => repeat (first | exact (Kd.C_below HR0_1.out HB.out) | (with_reducible refine Kd.C_alloc ?_ _) | (with_reducible refine Kd.C_drewN ?_ _) | (with_reducible refine Kd.C_drew ?_))); (case side2 => exact HC0_1.out); rintro e w179 ⟨rfl, hb⟩; refine ⟨_, rfl, ?_⟩; have n0_ := a5_ (Kd.V_below (by (with_reducible repeat (first | apply Kd.V_alloc | apply Kd.V_drewN | apply Kd.V_drew)); exact HO_204001.out) hb); have n1_ := a5_ (Kd.R_below (by (with_reducible repeat (first | apply Kd.R_alloc | apply Kd.R_drewN | apply Kd.R_drew)); exact HO_226001.out) hb); have n2_ := a5_ (blk_below (g := gb195) (o := .cells #[.int .i64 a0_0, .slice A0_1 l0_1.length c0_1] 24 (0, 0)) (by (with_reducible repeat (first | refine blk_drewN ?_ _ | refine blk_drew ?_ | refine blk_alloc ?_ _)); exact BK195.out) hb); have n3_ := a5_ (blk_below (g := gb203) (o := .cells #[.int .i64 t197, .slice Ao20 t198.length co20] 24 (0, 0)) (by (with_reducible repeat (first | refine blk_drewN ?_ _ | refine blk_drew ?_ | refine blk_alloc ?_ _)); exact BK203.out) hb); have n4_ := a5_ (blk_below (g := gb225) (o := .cells #[.int .i64 t221, .slice Ao101 t222.length co101] 24 (0, 0)) (by (with_reducible repeat (first | refine blk_drewN ?_ _ | refine blk_drew ?_ | refine blk_alloc ?_ _)); exact BK225.out) hb); have n5_ := a5_ (below_step (by repeat (first | (with_reducible first | exact HB.out | apply below_alloc | apply q5_ | apply below_drew1 | refine below_set ?_ GE195.out | refine below_set ?_ GE203.out | refine below_set ?_ GE225.out) | exact HB.out)) hb); clear HO_204001; clear HO_226001; clear BK195; clear BK203; clear BK225; clear HB; have HO_204001 := n0_; have HO_226001 := n1_; have BK195 := n2_; have BK203 := n3_; have BK225 := n4_; have HB := n5_; clear n0_ n1_ n2_ n3_ n4_ n5_; (try clear hb); (try clear hb2); (try clear hk); (try clear hi); have hnb180 := NB225_203.out; have hnc180 := NB203_225.out; have hcz181_0 : w179.cell? ⟨gb225, 0, none⟩ = some (.int .i64 t221) := (blk_cell BK225.out 0).trans rfl; have hcz181_1 : w179.cell? ⟨gb225, 1, none⟩ = some (.slice Ao101 t222.length co101) := (blk_cell BK225.out 1).trans rfl; have hfz181_0 := blk_frozen BK225.out 0; have hfz181_1 := blk_frozen BK225.out 1) | (go_at_call 12; (with_reducible refine (blob_Right.calls k3 t221 _ _ t222 t227 _ ?side1 ?side2 A174.out).mono ?_); (case side1 => repeat (first | exact (Kd.R_reads' HO_226001.out).2.2 | (with_reducible refine Kd.C_alloc ?_ _) | (with_reducible refine Kd.C_drewN ?_ _) | (with_reducible refine Kd.C_drew ?_))); (case side2 => exact (Kd.R_reads' HO_226001.out).2.1); rintro e w182 ⟨rfl, hb⟩; have n0_ := a5_ (Kd.V_below (by (with_reducible repeat (first | apply Kd.V_alloc | apply Kd.V_drewN | apply Kd.V_drew)); exact HO_204001.out) hb); have n1_ := a5_ (Kd.R_below (by (with_reducible repeat (first | apply Kd.R_alloc | apply Kd.R_drewN | apply Kd.R_drew)); exact HO_226001.out) hb); have n2_ := a5_ (blk_below (g := gb195) (o := .cells #[.int .i64 a0_0, .slice A0_1 l0_1.length c0_1] 24 (0, 0)) (by (with_reducible repeat (first | refine blk_drewN ?_ _ | refine blk_drew ?_ | refine blk_alloc ?_ _)); exact BK195.out) hb); have n3_ := a5_ (blk_below (g := gb203) (o := .cells #[.int .i64 t197, .slice Ao20 t198.length co20] 24 (0, 0)) (by (with_reducible repeat (first | refine blk_drewN ?_ _ | refine blk_drew ?_ | refine blk_alloc ?_ _)); exact BK203.out) hb); have n4_ := a5_ (blk_below (g := gb225) (o := .cells #[.int .i64 t221, .slice Ao101 t222.length co101] 24 (0, 0)) (by (with_reducible repeat (first | refine blk_drewN ?_ _ | refine blk_drew ?_ | refine blk_alloc ?_ _)); exact BK225.out) hb); have n5_ := a5_ (below_step (by repeat (first | (with_reducible first | exact HB.out | apply below_alloc | apply q5_ | apply below_drew1 | refine below_set ?_ GE195.out | refine below_set ?_ GE203.out | refine below_set ?_ GE225.out) | exact HB.out)) hb); clear HO_204001; clear HO_226001; clear BK195; clear BK203; clear BK225; clear HB; have HO_204001 := n0_; have HO_226001 := n1_; have BK195 := n2_; have BK203 := n3_; have BK225 := n4_; have HB := n5_; clear n0_ n1_ n2_ n3_ n4_ n5_; (try clear hb); (try clear hb2); (try clear hk); (try clear hi); have hcz183_0 : w182.cell? ⟨gb225, 0, none⟩ = some (.int .i64 t221) := (blk_cell BK225.out 0).trans rfl; have hcz183_1 : w182.cell? ⟨gb225, 1, none⟩ = some (.slice Ao101 t222.length co101) := (blk_cell BK225.out 1).trans rfl; have hfz183_0 := blk_frozen BK225.out 0; have hfz183_1 := blk_frozen BK225.out 1; have hcz184_0 : w182.cell? ⟨gb195, 0, none⟩ = some (.int .i64 a0_0) := (blk_cell BK195.out 0).trans rfl; have hcz184_1 : w182.cell? ⟨gb195, 1, none⟩ = some (.slice A0_1 l0_1.length c0_1) := (blk_cell BK195.out 1).trans rfl; have hfz184_0 := blk_frozen BK195.out 0; have hfz184_1 := blk_frozen BK195.out 1))
                        go_ret
                        exact ⟨by first | rfl | (simp [errW_none, errW_some] <;> rfl) | (simp [*, errW_none, errW_some] <;> rfl), by repeat (first | (with_reducible first | exact HB.out | apply below_alloc | apply q5_ | apply below_drew1 | refine below_set ?_ GE195.out | refine below_set ?_ GE203.out | refine below_set ?_ GE225.out) | exact HB.out)⟩
                      · rw [if_neg c175] at H
                        have c175b0 : (t227 == 0) = false := beq_eq_false_iff_ne.mpr c175
                        have c175b1 : (t227 != 0) = true := bne_iff_ne.mpr c175
                        obtain rfl := Option.some.inj H
                        have hnb185 := NB195_203.out
                        have hnc185 := NB203_195.out
                        have hnb186 := NB195_225.out
                        have hnc186 := NB225_195.out
                        have hcz187_0 : wr.cell? ⟨gb195, 0, none⟩ = some (.int .i64 a0_0) := (blk_cell BK195.out 0).trans rfl
                        have hcz187_1 : wr.cell? ⟨gb195, 1, none⟩ = some (.slice A0_1 l0_1.length c0_1) := (blk_cell BK195.out 1).trans rfl
                        have hfz187_0 := blk_frozen BK195.out 0
                        have hfz187_1 := blk_frozen BK195.out 1
                        go_wp2_with (first | ((with_reducible refine gate_callee (f := 12) rfl ?_); refine goesL_ (some 180) rfl rfl Try.func12 (by kernel_rfl) rfl #[.agg #[.int .i64 a0_0, .slice A0_1 l0_1.length c0_1]] rfl (by (try simp only [List.map_toArray, List.map_cons, List.map_nil]); first | done | rfl | (simp only [List.length_drop, List.length_take]; rfl)) ?_; (with_reducible refine (blob_Right.calls k3 a0_0 _ _ l0_1 t226 _ ?side1 ?side2 A172.out).mono ?_); (case side1 => repeat (first | exact (Kd.C_below HR0_1.out HB.out) | (with_reducible refine Kd.C_alloc ?_ _) | (with_reducible refine Kd.C_drewN ?_ _) | (with_reducible refine Kd.C_drew ?_))); (case side2 => exact HC0_1.out); rintro e w188 ⟨rfl, hb⟩; refine ⟨_, rfl, ?_⟩; have n0_ := a5_ (Kd.V_below (by (with_reducible repeat (first | apply Kd.V_alloc | apply Kd.V_drewN | apply Kd.V_drew)); exact HO_204001.out) hb); have n1_ := a5_ (Kd.R_below (by (with_reducible repeat (first | apply Kd.R_alloc | apply Kd.R_drewN | apply Kd.R_drew)); exact HO_226001.out) hb); have n2_ := a5_ (blk_below (g := gb195) (o := .cells #[.int .i64 a0_0, .slice A0_1 l0_1.length c0_1] 24 (0, 0)) (by (with_reducible repeat (first | refine blk_drewN ?_ _ | refine blk_drew ?_ | refine blk_alloc ?_ _)); exact BK195.out) hb); have n3_ := a5_ (blk_below (g := gb203) (o := .cells #[.int .i64 t197, .slice Ao20 t198.length co20] 24 (0, 0)) (by (with_reducible repeat (first | refine blk_drewN ?_ _ | refine blk_drew ?_ | refine blk_alloc ?_ _)); exact BK203.out) hb); have n4_ := a5_ (blk_below (g := gb225) (o := .cells #[.int .i64 t221, .slice Ao101 t222.length co101] 24 (0, 0)) (by (with_reducible repeat (first | refine blk_drewN ?_ _ | refine blk_drew ?_ | refine blk_alloc ?_ _)); exact BK225.out) hb); have n5_ := a5_ (below_step (by repeat (first | (with_reducible first | exact HB.out | apply below_alloc | apply q5_ | apply below_drew1 | refine below_set ?_ GE195.out | refine below_set ?_ GE203.out | refine below_set ?_ GE225.out) | exact HB.out)) hb); clear HO_204001; clear HO_226001; clear BK195; clear BK203; clear BK225; clear HB; have HO_204001 := n0_; have HO_226001 := n1_; have BK195 := n2_; have BK203 := n3_; have BK225 := n4_; have HB := n5_; clear n0_ n1_ n2_ n3_ n4_ n5_; (try clear hb); (try clear hb2); (try clear hk); (try clear hi); have hnb189 := NB225_203.out; have hnc189 := NB203_225.out; have hcz190_0 : w188.cell? ⟨gb225, 0, none⟩ = some (.int .i64 t221) := (blk_cell BK225.out 0).trans rfl; have hcz190_1 : w188.cell? ⟨gb225, 1, none⟩ = some (.slice Ao101 t222.length co101) := (blk_cell BK225.out 1).trans rfl; have hfz190_0 := blk_frozen BK225.out 0; have hfz190_1 := blk_frozen BK225.out 1) | (go_at_call 12; (with_reducible refine (blob_Right.calls k3 t221 _ _ t222 t227 _ ?side1 ?side2 A174.out).mono ?_); (case side1 => repeat (first | exact (Kd.R_reads' HO_226001.out).2.2 | (with_reducible refine Kd.C_alloc ?_ _) | (with_reducible refine Kd.C_drewN ?_ _) | (with_reducible refine Kd.C_drew ?_))); (case side2 => exact (Kd.R_reads' HO_226001.out).2.1); rintro e w191 ⟨rfl, hb⟩; have n0_ := a5_ (Kd.V_below (by (with_reducible repeat (first | apply Kd.V_alloc | apply Kd.V_drewN | apply Kd.V_drew)); exact HO_204001.out) hb); have n1_ := a5_ (Kd.R_below (by (with_reducible repeat (first | apply Kd.R_alloc | apply Kd.R_drewN | apply Kd.R_drew)); exact HO_226001.out) hb); have n2_ := a5_ (blk_below (g := gb195) (o := .cells #[.int .i64 a0_0, .slice A0_1 l0_1.length c0_1] 24 (0, 0)) (by (with_reducible repeat (first | refine blk_drewN ?_ _ | refine blk_drew ?_ | refine blk_alloc ?_ _)); exact BK195.out) hb); have n3_ := a5_ (blk_below (g := gb203) (o := .cells #[.int .i64 t197, .slice Ao20 t198.length co20] 24 (0, 0)) (by (with_reducible repeat (first | refine blk_drewN ?_ _ | refine blk_drew ?_ | refine blk_alloc ?_ _)); exact BK203.out) hb); have n4_ := a5_ (blk_below (g := gb225) (o := .cells #[.int .i64 t221, .slice Ao101 t222.length co101] 24 (0, 0)) (by (with_reducible repeat (first | refine blk_drewN ?_ _ | refine blk_drew ?_ | refine blk_alloc ?_ _)); exact BK225.out) hb); have n5_ := a5_ (below_step (by repeat (first | (with_reducible first | exact HB.out | apply below_alloc | apply q5_ | apply below_drew1 | refine below_set ?_ GE195.out | refine below_set ?_ GE203.out | refine below_set ?_ GE225.out) | exact HB.out)) hb); clear HO_204001; clear HO_226001; clear BK195; clear BK203; clear BK225; clear HB; have HO_204001 := n0_; have HO_226001 := n1_; have BK195 := n2_; have BK203 := n3_; have BK225 := n4_; have HB := n5_; clear n0_ n1_ n2_ n3_ n4_ n5_; (try clear hb); (try clear hb2); (try clear hk); (try clear hi)))
                        go_ret
                        exact ⟨by first | rfl | (simp [errW_none, errW_some] <;> rfl) | (simp [*, errW_none, errW_some] <;> rfl), by repeat (first | (with_reducible first | exact HB.out | apply below_alloc | apply q5_ | apply below_drew1 | refine below_set ?_ GE195.out | refine below_set ?_ GE203.out | refine below_set ?_ GE225.out) | exact HB.out)⟩
                    · rw [if_neg c173] at H
                      have c173b0 : (t226 == 0) = false := beq_eq_false_iff_ne.mpr c173
                      have c173b1 : (t226 != 0) = true := bne_iff_ne.mpr c173
                      obtain rfl := Option.some.inj H
                      have hnb192 := NB195_203.out
                      have hnc192 := NB203_195.out
                      have hnb193 := NB195_225.out
                      have hnc193 := NB225_195.out
                      have hcz194_0 : wr.cell? ⟨gb195, 0, none⟩ = some (.int .i64 a0_0) := (blk_cell BK195.out 0).trans rfl
                      have hcz194_1 : wr.cell? ⟨gb195, 1, none⟩ = some (.slice A0_1 l0_1.length c0_1) := (blk_cell BK195.out 1).trans rfl
                      have hfz194_0 := blk_frozen BK195.out 0
                      have hfz194_1 := blk_frozen BK195.out 1
                      go_wp2_with (first | ((with_reducible refine gate_callee (f := 12) rfl ?_); refine goesL_ (some 180) rfl rfl Try.func12 (by kernel_rfl) rfl #[.agg #[.int .i64 a0_0, .slice A0_1 l0_1.length c0_1]] rfl (by (try simp only [List.map_toArray, List.map_cons, List.map_nil]); first | done | rfl | (simp only [List.length_drop, List.length_take]; rfl)) ?_; (with_reducible refine (blob_Right.calls k3 a0_0 _ _ l0_1 t226 _ ?side1 ?side2 A172.out).mono ?_); (case side1 => repeat (first | exact (Kd.C_below HR0_1.out HB.out) | (with_reducible refine Kd.C_alloc ?_ _) | (with_reducible refine Kd.C_drewN ?_ _) | (with_reducible refine Kd.C_drew ?_))); (case side2 => exact HC0_1.out); rintro e w195 ⟨rfl, hb⟩; refine ⟨_, rfl, ?_⟩; have n0_ := a5_ (Kd.V_below (by (with_reducible repeat (first | apply Kd.V_alloc | apply Kd.V_drewN | apply Kd.V_drew)); exact HO_204001.out) hb); have n1_ := a5_ (Kd.R_below (by (with_reducible repeat (first | apply Kd.R_alloc | apply Kd.R_drewN | apply Kd.R_drew)); exact HO_226001.out) hb); have n2_ := a5_ (blk_below (g := gb195) (o := .cells #[.int .i64 a0_0, .slice A0_1 l0_1.length c0_1] 24 (0, 0)) (by (with_reducible repeat (first | refine blk_drewN ?_ _ | refine blk_drew ?_ | refine blk_alloc ?_ _)); exact BK195.out) hb); have n3_ := a5_ (blk_below (g := gb203) (o := .cells #[.int .i64 t197, .slice Ao20 t198.length co20] 24 (0, 0)) (by (with_reducible repeat (first | refine blk_drewN ?_ _ | refine blk_drew ?_ | refine blk_alloc ?_ _)); exact BK203.out) hb); have n4_ := a5_ (blk_below (g := gb225) (o := .cells #[.int .i64 t221, .slice Ao101 t222.length co101] 24 (0, 0)) (by (with_reducible repeat (first | refine blk_drewN ?_ _ | refine blk_drew ?_ | refine blk_alloc ?_ _)); exact BK225.out) hb); have n5_ := a5_ (below_step (by repeat (first | (with_reducible first | exact HB.out | apply below_alloc | apply q5_ | apply below_drew1 | refine below_set ?_ GE195.out | refine below_set ?_ GE203.out | refine below_set ?_ GE225.out) | exact HB.out)) hb); clear HO_204001; clear HO_226001; clear BK195; clear BK203; clear BK225; clear HB; have HO_204001 := n0_; have HO_226001 := n1_; have BK195 := n2_; have BK203 := n3_; have BK225 := n4_; have HB := n5_; clear n0_ n1_ n2_ n3_ n4_ n5_; (try clear hb); (try clear hb2); (try clear hk); (try clear hi)))
                      go_ret
                      exact ⟨by first | rfl | (simp [errW_none, errW_some] <;> rfl) | (simp [*, errW_none, errW_some] <;> rfl), by repeat (first | (with_reducible first | exact HB.out | apply below_alloc | apply q5_ | apply below_drew1 | refine below_set ?_ GE195.out | refine below_set ?_ GE203.out | refine below_set ?_ GE225.out) | exact HB.out)⟩
  · replace c5 := Bool.eq_false_iff.mpr c5
    subst c5
    have H1 : (some false) = some r := by rw [if_neg (show ¬ (false = true) by decide)] at H; exact H
    clear H
    have H := H1
    clear H1
    obtain rfl := Option.some.inj H
    go_enter Try.func5, Try.ntmps5
    go_wp2_with (first | ((with_reducible refine gate_dst (N := 3) rfl ?_); (try (refine gate_guard (by rfl) ?_; dsimp only)); refine box_event ?hg (N := 3) ?hd (cs := #[.int .i64 a0_0, .slice A0_1 l0_1.length c0_1]) (t := 24) ?hr ?_; (case hd => rfl); (case hg => rfl); (case hr => first | (go_simp; done) | (go_simp; rfl)); intro gb195 hg w196 hbox hb; have n0_ := a5_ (below_step (by repeat (first | (with_reducible first | exact HB.out | apply below_alloc | apply q5_ | apply below_drew1) | exact HB.out)) hb); have n1_ := a5_ (hbox); have n2_ := a5_ ((by rw [hg]; exact (below_size (by repeat (first | (with_reducible first | exact HB.out | apply below_alloc | apply q5_ | apply below_drew1) | exact HB.out))) : w.heap.size ≤ gb195)); have n3_ := a5_ ((by rw [hg]; exact (below_size (by repeat (first | (with_reducible first | exact HB.out | apply below_alloc | apply q5_ | apply below_drew1) | exact HB.out))) : w.heap.size ≤ gb195)); clear HB; have HB := n0_; have BK195 := n1_; have GW195 := n2_; have GE195 := n3_; clear n0_ n1_ n2_ n3_; clear hb hbox hg) | ((with_reducible refine gate_callee (f := 6) rfl ?_); refine goesL_ (some 26) rfl rfl Try.func6 (by kernel_rfl) rfl #[] rfl (by (try simp only [List.map_toArray, List.map_cons, List.map_nil]); first | done | rfl | (simp only [List.length_drop, List.length_take]; rfl)) ?_; (with_reducible refine (codesearchlaw24_alive.calls k  false _ A4.out).mono ?_); rintro e w197 ⟨rfl, hb⟩; refine ⟨_, rfl, ?_⟩; have n0_ := a5_ (blk_below (g := gb195) (o := .cells #[.int .i64 a0_0, .slice A0_1 l0_1.length c0_1] 24 (0, 0)) (by (with_reducible repeat (first | refine blk_drewN ?_ _ | refine blk_drew ?_ | refine blk_alloc ?_ _)); exact BK195.out) hb); have n1_ := a5_ (below_step (by repeat (first | (with_reducible first | exact HB.out | apply below_alloc | apply q5_ | apply below_drew1 | refine below_set ?_ GE195.out) | exact HB.out)) hb); clear BK195; clear HB; have BK195 := n0_; have HB := n1_; clear n0_ n1_; (try clear hb); (try clear hb2); (try clear hk); (try clear hi)))
    go_ret
    exact ⟨by first | rfl | (simp [errW_none, errW_some] <;> rfl) | (simp [*, errW_none, errW_some] <;> rfl), by repeat (first | (with_reducible first | exact HB.out | apply below_alloc | apply q5_ | apply below_drew1 | refine below_set ?_ GE195.out) | exact HB.out)⟩

end Go.Proofs.Ytgeejlfifeinmaa.PAll
