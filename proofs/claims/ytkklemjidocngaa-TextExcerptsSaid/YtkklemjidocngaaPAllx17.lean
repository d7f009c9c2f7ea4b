-- Written by this session's program hprint.py over the kit's print. Not trusted: Lean checks it.
import Derived.Test.YtkklemjidocngaaPAllx0
import Derived.Test.YtkklemjidocngaaPAllx14
import Derived.Test.YtkklemjidocngaaPAllx15
namespace Go.Proofs.Ytkklemjidocngaa.PAll
open Go.RowKit Go.Proofs.YtkklemjidocngaaW.PrintWords Go.Proofs.YtkklemjidocngaaW.PrintLast Go.Proofs.YtkklemjidocngaaW.PrintMore
attribute [local go_sem] max2_int min2_int max_two min_two max_three min_three max_four min_four   -- for this text's walks alone
set_option linter.unusedVariables false
set_option linter.unusedSimpArgs false

/-! ### codesearchref01_Excerpt: function 30 -/
mutual
def codesearchref01_Excerpt.j0 : Nat → ByteArray → Int → Bool → Int → Int → Option (ByteArray)
  | 0, _, _, _, _, _ => none
  | k + 1, x0, x2, x39, x252000, x252001 => if x39 = true then (some (⟨#[]⟩ : ByteArray)) else (if x252000 = x252001 then (codesearchref01_Excerpt.j1 k x0 x2 x252000 x252000) else (codesearchref01_Excerpt.j1 k x0 x2 x252000 (wrap64 (x252001 - 1))))
def codesearchref01_Excerpt.j1 : Nat → ByteArray → Int → Int → Int → Option (ByteArray)
  | 0, _, _, _, _ => none
  | k + 1, x0, x2, x7, x8 => if x7 ≥ (x0.size : Int) then (codesearchref01_Excerpt.j2 k x0 x2 (wrap64 ((x0.size : Int) - 1)) x8) else (codesearchref01_Excerpt.j2 k x0 x2 x7 x8)
def codesearchref01_Excerpt.j2 : Nat → ByteArray → Int → Int → Int → Option (ByteArray)
  | 0, _, _, _, _ => none
  | k + 1, x0, x2, x7, x8 => if x8 ≥ (x0.size : Int) then (codesearchref01_Excerpt.j3 k x0 x2 x7 (wrap64 ((x0.size : Int) - 1))) else (codesearchref01_Excerpt.j3 k x0 x2 x7 x8)
def codesearchref01_Excerpt.j3 : Nat → ByteArray → Int → Int → Int → Option (ByteArray)
  | 0, _, _, _, _ => none
  | k + 1, x0, x2, x7, x8 => (codesearchref01_line.f k x0 x7).bind fun t252 => ((codesearchref01_line.f k x0 x8).bind fun t253 => ((codesearchref01_Lines.f k x0).bind fun t254 => (codesearchref01_Excerpt.l0 k x2 t252 t253 t254 (⟨#[]⟩ : ByteArray) 0)))
def codesearchref01_Excerpt.l0 : Nat → Int → Int → Int → List ByteArray → ByteArray → Int → Option (ByteArray)
  | 0, _, _, _, _, _, _ => none
  | k + 1, x2, x9, x10, x11, x12, x13 => if x13 < (x11.length : Int) then (if x13 < x9 then (if (wrap64 (x9 - x13)) > x2 then (codesearchref01_Excerpt.l0 k x2 x9 x10 x11 x12 (wrap64 (x13 + 1))) else (if x13 > x10 then (if (wrap64 (x13 - x10)) > x2 then (codesearchref01_Excerpt.l0 k x2 x9 x10 x11 x12 (wrap64 (x13 + 1))) else (if 0 ≤ x13 then (if x12.size + (rdOf ByteArray.empty x11 x13).size ≤ 9223372036854775807 then (if (x12 ++ (rdOf ByteArray.empty x11 x13)).size + 1 ≤ 9223372036854775807 then (codesearchref01_Excerpt.l0 k x2 x9 x10 x11 ((x12 ++ (rdOf ByteArray.empty x11 x13)) ++ (⟨#[10]⟩ : ByteArray)) (wrap64 (x13 + 1))) else (none)) else (none)) else (none))) else (if 0 ≤ x13 then (if x12.size + (rdOf ByteArray.empty x11 x13).size ≤ 9223372036854775807 then (if (x12 ++ (rdOf ByteArray.empty x11 x13)).size + 1 ≤ 9223372036854775807 then (codesearchref01_Excerpt.l0 k x2 x9 x10 x11 ((x12 ++ (rdOf ByteArray.empty x11 x13)) ++ (⟨#[10]⟩ : ByteArray)) (wrap64 (x13 + 1))) else (none)) else (none)) else (none)))) else (if x13 > x10 then (if (wrap64 (x13 - x10)) > x2 then (codesearchref01_Excerpt.l0 k x2 x9 x10 x11 x12 (wrap64 (x13 + 1))) else (if 0 ≤ x13 then (if x12.size + (rdOf ByteArray.empty x11 x13).size ≤ 9223372036854775807 then (if (x12 ++ (rdOf ByteArray.empty x11 x13)).size + 1 ≤ 9223372036854775807 then (codesearchref01_Excerpt.l0 k x2 x9 x10 x11 ((x12 ++ (rdOf ByteArray.empty x11 x13)) ++ (⟨#[10]⟩ : ByteArray)) (wrap64 (x13 + 1))) else (none)) else (none)) else (none))) else (if 0 ≤ x13 then (if x12.size + (rdOf ByteArray.empty x11 x13).size ≤ 9223372036854775807 then (if (x12 ++ (rdOf ByteArray.empty x11 x13)).size + 1 ≤ 9223372036854775807 then (codesearchref01_Excerpt.l0 k x2 x9 x10 x11 ((x12 ++ (rdOf ByteArray.empty x11 x13)) ++ (⟨#[10]⟩ : ByteArray)) (wrap64 (x13 + 1))) else (none)) else (none)) else (none)))) else (some x12)
end
def codesearchref01_Excerpt.f (k : Nat) (a0 : ByteArray) (a1_0 : Int) (a1_1 : Int) (a2 : Int) : Option (ByteArray) := if a1_0 < 0 then (codesearchref01_Excerpt.j0 k a0 a2 true a1_0 a1_1) else (if a1_0 > a1_1 then (codesearchref01_Excerpt.j0 k a0 a2 true a1_0 a1_1) else (if a1_1 > (a0.size : Int) then (codesearchref01_Excerpt.j0 k a0 a2 true a1_0 a1_1) else (if a2 < 0 then (codesearchref01_Excerpt.j0 k a0 a2 true a1_0 a1_1) else (codesearchref01_Excerpt.j0 k a0 a2 ((a0.size : Int) == 0) a1_0 a1_1))))
theorem codesearchref01_Excerpt.mono_l : ∀ k, (∀ y0 y1 y2 y3 y4, LeO (codesearchref01_Excerpt.j0 k y0 y1 y2 y3 y4) (codesearchref01_Excerpt.j0 (k + 1) y0 y1 y2 y3 y4)) ∧ (∀ y0 y1 y2 y3, LeO (codesearchref01_Excerpt.j1 k y0 y1 y2 y3) (codesearchref01_Excerpt.j1 (k + 1) y0 y1 y2 y3)) ∧ (∀ y0 y1 y2 y3, LeO (codesearchref01_Excerpt.j2 k y0 y1 y2 y3) (codesearchref01_Excerpt.j2 (k + 1) y0 y1 y2 y3)) ∧ (∀ y0 y1 y2 y3, LeO (codesearchref01_Excerpt.j3 k y0 y1 y2 y3) (codesearchref01_Excerpt.j3 (k + 1) y0 y1 y2 y3)) ∧ (∀ y0 y1 y2 y3 y4 y5, LeO (codesearchref01_Excerpt.l0 k y0 y1 y2 y3 y4 y5) (codesearchref01_Excerpt.l0 (k + 1) y0 y1 y2 y3 y4 y5))
  | 0 => ⟨fun _ _ _ _ _ r h => by simp [codesearchref01_Excerpt.j0] at h, fun _ _ _ _ r h => by simp [codesearchref01_Excerpt.j1] at h, fun _ _ _ _ r h => by simp [codesearchref01_Excerpt.j2] at h, fun _ _ _ _ r h => by simp [codesearchref01_Excerpt.j3] at h, fun _ _ _ _ _ _ r h => by simp [codesearchref01_Excerpt.l0] at h⟩
  | k + 1 => by
    obtain ⟨ih0, ih1, ih2, ih3, ih4⟩ := codesearchref01_Excerpt.mono_l k
    refine ⟨?_, ?_, ?_, ?_, ?_⟩
    · intro y0 y1 y2 y3 y4
      unfold codesearchref01_Excerpt.j0
      repeat' first
      | (with_reducible exact ih0 _ _ _ _ _)
      | (with_reducible exact ih1 _ _ _ _)
      | (with_reducible exact ih2 _ _ _ _)
      | (with_reducible exact ih3 _ _ _ _)
      | (with_reducible exact ih4 _ _ _ _ _ _)
      | (with_reducible exact codesearchref01_Lines.mono _ _)
      | (with_reducible exact codesearchref01_line.mono _ _ _)
      | (with_reducible exact LeO.refl _)
      | (with_reducible exact LeO.none _)
      | (with_reducible refine LeO.ite ?_ ?_)
      | (with_reducible refine LeO.bind ?_ (fun _ => ?_))
      | exact ih0 _ _ _ _ _
      | exact ih1 _ _ _ _
      | exact ih2 _ _ _ _
      | exact ih3 _ _ _ _
      | exact ih4 _ _ _ _ _ _
      | exact codesearchref01_Lines.mono _ _
      | exact codesearchref01_line.mono _ _ _
      | exact LeO.none _
      | refine LeO.ite ?_ ?_
      | refine LeO.bind ?_ (fun _ => ?_)
    · intro y0 y1 y2 y3
      unfold codesearchref01_Excerpt.j1
      repeat' first
      | (with_reducible exact ih0 _ _ _ _ _)
      | (with_reducible exact ih1 _ _ _ _)
      | (with_reducible exact ih2 _ _ _ _)
      | (with_reducible exact ih3 _ _ _ _)
      | (with_reducible exact ih4 _ _ _ _ _ _)
      | (with_reducible exact codesearchref01_Lines.mono _ _)
      | (with_reducible exact codesearchref01_line.mono _ _ _)
      | (with_reducible exact LeO.refl _)
      | (with_reducible exact LeO.none _)
      | (with_reducible refine LeO.ite ?_ ?_)
      | (with_reducible refine LeO.bind ?_ (fun _ => ?_))
      | exact ih0 _ _ _ _ _
      | exact ih1 _ _ _ _
      | exact ih2 _ _ _ _
      | exact ih3 _ _ _ _
      | exact ih4 _ _ _ _ _ _
      | exact codesearchref01_Lines.mono _ _
      | exact codesearchref01_line.mono _ _ _
      | exact LeO.none _
      | refine LeO.ite ?_ ?_
      | refine LeO.bind ?_ (fun _ => ?_)
    · intro y0 y1 y2 y3
      unfold codesearchref01_Excerpt.j2
      repeat' first
      | (with_reducible exact ih0 _ _ _ _ _)
      | (with_reducible exact ih1 _ _ _ _)
      | (with_reducible exact ih2 _ _ _ _)
      | (with_reducible exact ih3 _ _ _ _)
      | (with_reducible exact ih4 _ _ _ _ _ _)
      | (with_reducible exact codesearchref01_Lines.mono _ _)
      | (with_reducible exact codesearchref01_line.mono _ _ _)
      | (with_reducible exact LeO.refl _)
      | (with_reducible exact LeO.none _)
      | (with_reducible refine LeO.ite ?_ ?_)
      | (with_reducible refine LeO.bind ?_ (fun _ => ?_))
      | exact ih0 _ _ _ _ _
      | exact ih1 _ _ _ _
      | exact ih2 _ _ _ _
      | exact ih3 _ _ _ _
      | exact ih4 _ _ _ _ _ _
      | exact codesearchref01_Lines.mono _ _
      | exact codesearchref01_line.mono _ _ _
      | exact LeO.none _
      | refine LeO.ite ?_ ?_
      | refine LeO.bind ?_ (fun _ => ?_)
    · intro y0 y1 y2 y3
      unfold codesearchref01_Excerpt.j3
      repeat' first
      | (with_reducible exact ih0 _ _ _ _ _)
      | (with_reducible exact ih1 _ _ _ _)
      | (with_reducible exact ih2 _ _ _ _)
      | (with_reducible exact ih3 _ _ _ _)
      | (with_reducible exact ih4 _ _ _ _ _ _)
      | (with_reducible exact codesearchref01_Lines.mono _ _)
      | (with_reducible exact codesearchref01_line.mono _ _ _)
      | (with_reducible exact LeO.refl _)
      | (with_reducible exact LeO.none _)
      | (with_reducible refine LeO.ite ?_ ?_)
      | (with_reducible refine LeO.bind ?_ (fun _ => ?_))
      | exact ih0 _ _ _ _ _
      | exact ih1 _ _ _ _
      | exact ih2 _ _ _ _
      | exact ih3 _ _ _ _
      | exact ih4 _ _ _ _ _ _
      | exact codesearchref01_Lines.mono _ _
      | exact codesearchref01_line.mono _ _ _
      | exact LeO.none _
      | refine LeO.ite ?_ ?_
      | refine LeO.bind ?_ (fun _ => ?_)
    · intro y0 y1 y2 y3 y4 y5
      unfold codesearchref01_Excerpt.l0
      repeat' first
      | (with_reducible exact ih0 _ _ _ _ _)
      | (with_reducible exact ih1 _ _ _ _)
      | (with_reducible exact ih2 _ _ _ _)
      | (with_reducible exact ih3 _ _ _ _)
      | (with_reducible exact ih4 _ _ _ _ _ _)
      | (with_reducible exact codesearchref01_Lines.mono _ _)
      | (with_reducible exact codesearchref01_line.mono _ _ _)
      | (with_reducible exact LeO.refl _)
      | (with_reducible exact LeO.none _)
      | (with_reducible refine LeO.ite ?_ ?_)
      | (with_reducible refine LeO.bind ?_ (fun _ => ?_))
      | exact ih0 _ _ _ _ _
      | exact ih1 _ _ _ _
      | exact ih2 _ _ _ _
      | exact ih3 _ _ _ _
      | exact ih4 _ _ _ _ _ _
      | exact codesearchref01_Lines.mono _ _
      | exact codesearchref01_line.mono _ _ _
      | exact LeO.none _
      | refine LeO.ite ?_ ?_
      | refine LeO.bind ?_ (fun _ => ?_)
theorem codesearchref01_Excerpt.mono : ∀ a0 a1 a2 a3 k, LeO (codesearchref01_Excerpt.f k a0 a1 a2 a3) (codesearchref01_Excerpt.f (k + 1) a0 a1 a2 a3) := by
  intro a0 a1 a2 a3 k
  obtain ⟨ih0, ih1, ih2, ih3, ih4⟩ := codesearchref01_Excerpt.mono_l k
  unfold codesearchref01_Excerpt.f
  repeat' first
      | (with_reducible exact ih0 _ _ _ _ _)
      | (with_reducible exact ih1 _ _ _ _)
      | (with_reducible exact ih2 _ _ _ _)
      | (with_reducible exact ih3 _ _ _ _)
      | (with_reducible exact ih4 _ _ _ _ _ _)
      | (with_reducible exact codesearchref01_Lines.mono _ _)
      | (with_reducible exact codesearchref01_line.mono _ _ _)
      | (with_reducible exact LeO.refl _)
      | (with_reducible exact LeO.none _)
      | (with_reducible refine LeO.ite ?_ ?_)
      | (with_reducible refine LeO.bind ?_ (fun _ => ?_))
      | exact ih0 _ _ _ _ _
      | exact ih1 _ _ _ _
      | exact ih2 _ _ _ _
      | exact ih3 _ _ _ _
      | exact ih4 _ _ _ _ _ _
      | exact codesearchref01_Lines.mono _ _
      | exact codesearchref01_line.mono _ _ _
      | exact LeO.none _
      | refine LeO.ite ?_ ?_
      | refine LeO.bind ?_ (fun _ => ?_)
set_option maxHeartbeats 8000000 in
set_option maxRecDepth 100000 in
theorem codesearchref01_Excerpt.calls (k : Nat) (a0 : ByteArray) (a1_0 : Int) (a1_1 : Int) (a2 : Int) (r : ByteArray) (w : World) (h : codesearchref01_Excerpt.f k a0 a1_0 a1_1 a2 = some r) :
    Calls Try.prog 30 #[.string a0, .agg #[.int .i64 a1_0, .int .i64 a1_1], .int .i64 a2] w fun e w' => e = .returned (.string r) ∧ Below w.heap.size w w' := by
  have hu42 := Try.underlying42
  have HB := Aside0.mk (Below.refl w.heap.size w)
  have H : (if a1_0 < 0 then (codesearchref01_Excerpt.j0 k a0 a2 true a1_0 a1_1) else (if a1_0 > a1_1 then (codesearchref01_Excerpt.j0 k a0 a2 true a1_0 a1_1) else (if a1_1 > (a0.size : Int) then (codesearchref01_Excerpt.j0 k a0 a2 true a1_0 a1_1) else (if a2 < 0 then (codesearchref01_Excerpt.j0 k a0 a2 true a1_0 a1_1) else (codesearchref01_Excerpt.j0 k a0 a2 ((a0.size : Int) == 0) a1_0 a1_1))))) = some r := h
  clear h
  have HC4 := Aside0.mk H
  clear H
  go_enter Try.func30, Try.ntmps30
  go_upto_region 1 with (first | ((with_reducible refine gate_dst (N := 4) rfl ?_); (try (refine gate_guard (by rfl) ?_; dsimp only)); refine box_event ?hg (N := 4) ?hd (cs := #[.int .i64 a1_0, .int .i64 a1_1]) (t := 42) ?hr ?_; (case hd => rfl); (case hg => rfl); (case hr => first | (go_simp; done) | (go_simp; rfl)); intro gb251 hg w5 hbox hb; have n0_ := Aside0.mk (below_step (by repeat (first | (with_reducible first | exact HB.out | apply below_alloc | apply pw_below_drewN | apply below_drew1) | exact HB.out)) hb); have n1_ := Aside0.mk (hbox); have n2_ := Aside0.mk ((by rw [hg]; exact (below_size (by repeat (first | (with_reducible first | exact HB.out | apply below_alloc | apply pw_below_drewN | apply below_drew1) | exact HB.out))) : w.heap.size ≤ gb251)); have n3_ := Aside0.mk ((by rw [hg]; exact (below_size (by repeat (first | (with_reducible first | exact HB.out | apply below_alloc | apply pw_below_drewN | apply below_drew1) | exact HB.out))) : w.heap.size ≤ gb251)); clear HB; have HB := n0_; have BK251 := n1_; have GW251 := n2_; have GE251 := n3_; clear n0_ n1_ n2_ n3_; clear hb hbox hg))
  (try simp only [Act.put, List.setIfInBounds_toArray, List.set_cons_zero, List.set_cons_succ])
  go_cut [39] (fun v39 wc => ∃ (kq : Nat) (x39_3 : Bool), v39 = .bool x39_3 ∧ Aside0 (codesearchref01_Excerpt.j0 kq a0 a2 x39_3 a1_0 a1_1 = some r) ∧ Aside0 (kq ≤ k) ∧ Aside0 (wc.heap[gb251]? = some (.cells #[.int .i64 a1_0, .int .i64 a1_1] 42 (0, 0))) ∧ Aside0 (Below w.heap.size w wc))
  case first =>
    have H := HC4.out
    clear HC4
    by_cases c6 : a1_0 < 0
    · rw [if_pos c6] at H
      have c6b0 : decide (a1_0 < 0) = true := decide_eq_true c6
      clear c6
      (first | rw [c6b0] | (simp only [i64_w, i32_w]; rw [c6b0]) | skip)
      have H' := Aside0.mk H
      clear H
      have hcz7_0 : w5.cell? ⟨gb251, 0, none⟩ = some (.int .i64 a1_0) := (blk_cell BK251.out 0).trans rfl
      have hcz7_1 : w5.cell? ⟨gb251, 1, none⟩ = some (.int .i64 a1_1) := (blk_cell BK251.out 1).trans rfl
      have hfz7_0 := blk_frozen BK251.out 0
      have hfz7_1 := blk_frozen BK251.out 1
      go_wp2
      go_meet
      case rel => exact ⟨_, (true), (by first | rfl | (simp; done) | (simp [*]; done)), H', ⟨by first | omega | exact Nat.le_refl _⟩, ⟨by (with_reducible repeat (first | refine blk_drewN ?_ _ | refine blk_drew ?_ | refine blk_alloc ?_ _)); exact BK251.out⟩, ⟨by repeat (first | (with_reducible first | exact HB.out | apply below_alloc | apply pw_below_drewN | apply below_drew1 | refine below_set ?_ GE251.out) | exact HB.out)⟩⟩
    · rw [if_neg c6] at H
      have c6b0 : decide (a1_0 < 0) = false := decide_eq_false c6
      clear c6
      (first | rw [c6b0] | (simp only [i64_w, i32_w]; rw [c6b0]) | skip)
      by_cases c8 : a1_0 > a1_1
      · rw [if_pos c8] at H
        have c8b0 : decide (a1_1 < a1_0) = true := decide_eq_true c8
        clear c8
        have H' := Aside0.mk H
        clear H
        have hcz9_0 : w5.cell? ⟨gb251, 0, none⟩ = some (.int .i64 a1_0) := (blk_cell BK251.out 0).trans rfl
        have hcz9_1 : w5.cell? ⟨gb251, 1, none⟩ = some (.int .i64 a1_1) := (blk_cell BK251.out 1).trans rfl
        have hfz9_0 := blk_frozen BK251.out 0
        have hfz9_1 := blk_frozen BK251.out 1
        go_wp2
        go_meet
        case rel => exact ⟨_, (true), (by first | rfl | (simp; done) | (simp [*]; done)), H', ⟨by first | omega | exact Nat.le_refl _⟩, ⟨by (with_reducible repeat (first | refine blk_drewN ?_ _ | refine blk_drew ?_ | refine blk_alloc ?_ _)); exact BK251.out⟩, ⟨by repeat (first | (with_reducible first | exact HB.out | apply below_alloc | apply pw_below_drewN | apply below_drew1 | refine below_set ?_ GE251.out) | exact HB.out)⟩⟩
      · rw [if_neg c8] at H
        have c8b0 : decide (a1_1 < a1_0) = false := decide_eq_false c8
        clear c8
        by_cases c10 : a1_1 > (a0.size : Int)
        · rw [if_pos c10] at H
          have c10b0 : decide ((a0.size : Int) < a1_1) = true := decide_eq_true c10
          clear c10
          have H' := Aside0.mk H
          clear H
          have hcz11_0 : w5.cell? ⟨gb251, 0, none⟩ = some (.int .i64 a1_0) := (blk_cell BK251.out 0).trans rfl
          have hcz11_1 : w5.cell? ⟨gb251, 1, none⟩ = some (.int .i64 a1_1) := (blk_cell BK251.out 1).trans rfl
          have hfz11_0 := blk_frozen BK251.out 0
          have hfz11_1 := blk_frozen BK251.out 1
          go_wp2
          go_meet
          case rel => exact ⟨_, (true), (by first | rfl | (simp; done) | (simp [*]; done)), H', ⟨by first | omega | exact Nat.le_refl _⟩, ⟨by (with_reducible repeat (first | refine blk_drewN ?_ _ | refine blk_drew ?_ | refine blk_alloc ?_ _)); exact BK251.out⟩, ⟨by repeat (first | (with_reducible first | exact HB.out | apply below_alloc | apply pw_below_drewN | apply below_drew1 | refine below_set ?_ GE251.out) | exact HB.out)⟩⟩
        · rw [if_neg c10] at H
          have c10b0 : decide ((a0.size : Int) < a1_1) = false := decide_eq_false c10
          clear c10
          by_cases c12 : a2 < 0
          · rw [if_pos c12] at H
            have c12b0 : decide (a2 < 0) = true := decide_eq_true c12
            clear c12
            have H' := Aside0.mk H
            clear H
            have hcz13_0 : w5.cell? ⟨gb251, 0, none⟩ = some (.int .i64 a1_0) := (blk_cell BK251.out 0).trans rfl
            have hcz13_1 : w5.cell? ⟨gb251, 1, none⟩ = some (.int .i64 a1_1) := (blk_cell BK251.out 1).trans rfl
            have hfz13_0 := blk_frozen BK251.out 0
            have hfz13_1 := blk_frozen BK251.out 1
            go_wp2
            go_meet
            case rel => exact ⟨_, (true), (by first | rfl | (simp; done) | (simp [*]; done)), H', ⟨by first | omega | exact Nat.le_refl _⟩, ⟨by (with_reducible repeat (first | refine blk_drewN ?_ _ | refine blk_drew ?_ | refine blk_alloc ?_ _)); exact BK251.out⟩, ⟨by repeat (first | (with_reducible first | exact HB.out | apply below_alloc | apply pw_below_drewN | apply below_drew1 | refine below_set ?_ GE251.out) | exact HB.out)⟩⟩
          · rw [if_neg c12] at H
            have c12b0 : decide (a2 < 0) = false := decide_eq_false c12
            clear c12
            have H' := Aside0.mk H
            clear H
            have hcz14_0 : w5.cell? ⟨gb251, 0, none⟩ = some (.int .i64 a1_0) := (blk_cell BK251.out 0).trans rfl
            have hcz14_1 : w5.cell? ⟨gb251, 1, none⟩ = some (.int .i64 a1_1) := (blk_cell BK251.out 1).trans rfl
            have hfz14_0 := blk_frozen BK251.out 0
            have hfz14_1 := blk_frozen BK251.out 1
            go_wp2
            go_meet
            case rel => exact ⟨_, (((a0.size : Int) == 0)), (by first | rfl | (simp; done) | (simp [*]; done)), H', ⟨by first | omega | exact Nat.le_refl _⟩, ⟨by (with_reducible repeat (first | refine blk_drewN ?_ _ | refine blk_drew ?_ | refine blk_alloc ?_ _)); exact BK251.out⟩, ⟨by repeat (first | (with_reducible first | exact HB.out | apply below_alloc | apply pw_below_drewN | apply below_drew1 | refine below_set ?_ GE251.out) | exact HB.out)⟩⟩
  case rest =>
    clear HC4
    try clear c1
    try clear p2
    try clear c3
    try clear c6
    try clear c6b0
    try clear c8
    try clear c8b0
    try clear c10
    try clear c10b0
    try clear c12
    try clear c12b0
    try clear hcz11_0
    try clear hcz11_1
    try clear hcz13_0
    try clear hcz13_1
    try clear hcz14_0
    try clear hcz14_1
    try clear hcz7_0
    try clear hcz7_1
    try clear hcz9_0
    try clear hcz9_1
    try clear hfz11_0
    try clear hfz11_1
    try clear hfz13_0
    try clear hfz13_1
    try clear hfz14_0
    try clear hfz14_1
    try clear hfz7_0
    try clear hfz7_1
    try clear hfz9_0
    try clear hfz9_1
    obtain ⟨kq, x39_3, rfl, HA, HJ3, BK251, HB⟩ := hcut
    cases kq with
    | zero => exact absurd HA.out (by simp [codesearchref01_Excerpt.j0])
    | succ kj3 =>
      have H := HA.out
      clear HA
      simp only [codesearchref01_Excerpt.j0] at H
      by_cases c15 : x39_3 = true
      · subst c15
        have H1 : (some (⟨#[]⟩ : ByteArray)) = some r := by rw [if_pos rfl] at H; exact H
        clear H
        have H := H1
        clear H1
        obtain rfl := Option.some.inj H
        go_wp2
        go_ret
        exact ⟨by first | rfl | (simp [errW_none, errW_some] <;> rfl) | (simp [*, errW_none, errW_some] <;> rfl), by repeat (first | (with_reducible first | exact HB.out | apply below_alloc | apply pw_below_drewN | apply below_drew1 | refine below_set ?_ GE251.out) | exact HB.out)⟩
      · replace c15 := Bool.eq_false_iff.mpr c15
        subst c15
        have H1 : (if a1_0 = a1_1 then (codesearchref01_Excerpt.j1 kj3 a0 a2 a1_0 a1_0) else (codesearchref01_Excerpt.j1 kj3 a0 a2 a1_0 (wrap64 (a1_1 - 1)))) = some r := by rw [if_neg (show ¬ (false = true) by decide)] at H; exact H
        clear H
        have H := H1
        clear H1
        have HC16 := Aside0.mk H
        clear H
        have hcz17_0 : wc.cell? ⟨gb251, 0, none⟩ = some (.int .i64 a1_0) := (blk_cell BK251.out 0).trans rfl
        have hcz17_1 : wc.cell? ⟨gb251, 1, none⟩ = some (.int .i64 a1_1) := (blk_cell BK251.out 1).trans rfl
        have hfz17_0 := blk_frozen BK251.out 0
        have hfz17_1 := blk_frozen BK251.out 1
        go_upto_if 49 with (fail)
        go_cut [8] (fun v8 wc => ∃ (kq : Nat) (x8_15 : Int), v8 = .int .i64 x8_15 ∧ Aside0 (codesearchref01_Excerpt.j1 kq a0 a2 a1_0 x8_15 = some r) ∧ Aside0 (kq ≤ kj3) ∧ Aside0 (wc.heap[gb251]? = some (.cells #[.int .i64 a1_0, .int .i64 a1_1] 42 (0, 0))) ∧ Aside0 (Below w.heap.size w wc))
        case first =>
          have H := HC16.out
          clear HC16
          by_cases c18 : a1_0 = a1_1
          · rw [if_pos c18] at H
            have c18b0 : (a1_0 == a1_1) = true := beq_iff_eq.mpr c18
            have c18b1 : (a1_0 != a1_1) = false := bne_eq_false_iff_eq.mpr c18
            clear c18
            (first | rw [c18b0] | (simp only [i64_w, i32_w]; rw [c18b0]) | skip)
            have H' := Aside0.mk H
            clear H
            have hcz19_0 : wc.cell? ⟨gb251, 0, none⟩ = some (.int .i64 a1_0) := (blk_cell BK251.out 0).trans rfl
            have hcz19_1 : wc.cell? ⟨gb251, 1, none⟩ = some (.int .i64 a1_1) := (blk_cell BK251.out 1).trans rfl
            have hfz19_0 := blk_frozen BK251.out 0
            have hfz19_1 := blk_frozen BK251.out 1
            go_wp2
            go_meet
            case rel => exact ⟨_, (a1_0), (by first | rfl | (simp; done) | (simp [*]; done)), H', ⟨by have := HJ3.out; first | omega | exact Nat.le_refl _⟩, ⟨by (with_reducible repeat (first | refine blk_drewN ?_ _ | refine blk_drew ?_ | refine blk_alloc ?_ _)); exact BK251.out⟩, ⟨by repeat (first | (with_reducible first | exact HB.out | apply below_alloc | apply pw_below_drewN | apply below_drew1 | refine below_set ?_ GE251.out) | exact HB.out)⟩⟩
          · rw [if_neg c18] at H
            have c18b0 : (a1_0 == a1_1) = false := beq_eq_false_iff_ne.mpr c18
            have c18b1 : (a1_0 != a1_1) = true := bne_iff_ne.mpr c18
            (first | rw [c18b0] | (simp only [i64_w, i32_w]; rw [c18b0]) | skip)
            have H' := Aside0.mk H
            clear H
            go_wp2
            go_meet
            case rel => exact ⟨_, (wrap64 (a1_1 - 1)), (by first | rfl | (simp; done) | (simp [*]; done)), H', ⟨by have := HJ3.out; first | omega | exact Nat.le_refl _⟩, ⟨by (with_reducible repeat (first | refine blk_drewN ?_ _ | refine blk_drew ?_ | refine blk_alloc ?_ _)); exact BK251.out⟩, ⟨by repeat (first | (with_reducible first | exact HB.out | apply below_alloc | apply pw_below_drewN | apply below_drew1 | refine below_set ?_ GE251.out) | exact HB.out)⟩⟩
        case rest =>
          clear HC16
          try clear c1
          try clear p2
          try clear c3
          try clear c6
          try clear c6b0
          try clear p6
          try clear c8
          try clear c8b0
          try clear c10
          try clear c10b0
          try clear c12
          try clear c12b0
          try clear c15
          try clear c18
          try clear c18b0
          try clear c18b1
          try clear hcz11_0
          try clear hcz11_1
          try clear hcz13_0
          try clear hcz13_1
          try clear hcz14_0
          try clear hcz14_1
          try clear hcz17_0
          try clear hcz17_1
          try clear hcz19_0
          try clear hcz19_1
          try clear hcz7_0
          try clear hcz7_1
          try clear hcz9_0
          try clear hcz9_1
          try clear hfz11_0
          try clear hfz11_1
          try clear hfz13_0
          try clear hfz13_1
          try clear hfz14_0
          try clear hfz14_1
          try clear hfz17_0
          try clear hfz17_1
          try clear hfz19_0
          try clear hfz19_1
          try clear hfz7_0
          try clear hfz7_1
          try clear hfz9_0
          try clear hfz9_1
          try clear p2
          obtain ⟨kq, x8_15, rfl, HA, HJ15, BK251, HB⟩ := hcut
          cases kq with
          | zero => exact absurd HA.out (by simp [codesearchref01_Excerpt.j1])
          | succ kj15 =>
            have H := HA.out
            clear HA
            simp only [codesearchref01_Excerpt.j1] at H
            have HC20 := Aside0.mk H
            clear H
            go_upto_if 55 with (fail)
            go_cut [7] (fun v7 wc => ∃ (kq : Nat) (x7_19 : Int), v7 = .int .i64 x7_19 ∧ Aside0 (codesearchref01_Excerpt.j2 kq a0 a2 x7_19 x8_15 = some r) ∧ Aside0 (kq ≤ kj15) ∧ Aside0 (wc.heap[gb251]? = some (.cells #[.int .i64 a1_0, .int .i64 a1_1] 42 (0, 0))) ∧ Aside0 (Below w.heap.size w wc))
            case first =>
              have H := HC20.out
              clear HC20
              by_cases c21 : a1_0 ≥ (a0.size : Int)
              · rw [if_pos c21] at H
                have c21b0 : decide ((a0.size : Int) ≤ a1_0) = true := decide_eq_true c21
                clear c21
                (first | rw [c21b0] | (simp only [i64_w, i32_w]; rw [c21b0]) | skip)
                have H' := Aside0.mk H
                clear H
                go_wp2
                go_meet
                case rel => exact ⟨_, (wrap64 ((a0.size : Int) - 1)), (by first | rfl | (simp; done) | (simp [*]; done)), H', ⟨by have := HJ3.out; have := HJ15.out; first | omega | exact Nat.le_refl _⟩, ⟨by (with_reducible repeat (first | refine blk_drewN ?_ _ | refine blk_drew ?_ | refine blk_alloc ?_ _)); exact BK251.out⟩, ⟨by repeat (first | (with_reducible first | exact HB.out | apply below_alloc | apply pw_below_drewN | apply below_drew1 | refine below_set ?_ GE251.out) | exact HB.out)⟩⟩
              · rw [if_neg c21] at H
                have c21b0 : decide ((a0.size : Int) ≤ a1_0) = false := decide_eq_false c21
                clear c21
                (first | rw [c21b0] | (simp only [i64_w, i32_w]; rw [c21b0]) | skip)
                have H' := Aside0.mk H
                clear H
                go_wp2
                go_meet
                case rel => exact ⟨_, (a1_0), (by first | rfl | (simp; done) | (simp [*]; done)), H', ⟨by have := HJ3.out; have := HJ15.out; first | omega | exact Nat.le_refl _⟩, ⟨by (with_reducible repeat (first | refine blk_drewN ?_ _ | refine blk_drew ?_ | refine blk_alloc ?_ _)); exact BK251.out⟩, ⟨by repeat (first | (with_reducible first | exact HB.out | apply below_alloc | apply pw_below_drewN | apply below_drew1 | refine below_set ?_ GE251.out) | exact HB.out)⟩⟩
            case rest =>
              clear HC20
              try clear c1
              try clear c2
              try clear p2
              try clear c3
              try clear c6
              try clear c6b0
              try clear p6
              try clear c8
              try clear c8b0
              try clear c10
              try clear c10b0
              try clear c12
              try clear c12b0
              try clear c15
              try clear c18
              try clear c18b0
              try clear c18b1
              try clear c21
              try clear c21b0
              try clear hcz11_0
              try clear hcz11_1
              try clear hcz13_0
              try clear hcz13_1
              try clear hcz14_0
              try clear hcz14_1
              try clear hcz17_0
              try clear hcz17_1
              try clear hcz19_0
              try clear hcz19_1
              try clear hcz7_0
              try clear hcz7_1
              try clear hcz9_0
              try clear hcz9_1
              try clear hfz11_0
              try clear hfz11_1
              try clear hfz13_0
              try clear hfz13_1
              try clear hfz14_0
              try clear hfz14_1
              try clear hfz17_0
              try clear hfz17_1
              try clear hfz19_0
              try clear hfz19_1
              try clear hfz7_0
              try clear hfz7_1
              try clear hfz9_0
              try clear hfz9_1
              try clear p2
              try clear p6
              obtain ⟨kq, x7_19, rfl, HA, HJ19, BK251, HB⟩ := hcut
              cases kq with
              | zero => exact absurd HA.out (by simp [codesearchref01_Excerpt.j2])
              | succ kj19 =>
                have H := HA.out
                clear HA
                simp only [codesearchref01_Excerpt.j2] at H
                have HC22 := Aside0.mk H
                clear H
                go_upto_if 62 with (fail)
                go_cut [8] (fun v8 wc => ∃ (kq : Nat) (x8_21 : Int), v8 = .int .i64 x8_21 ∧ Aside0 (codesearchref01_Excerpt.j3 kq a0 a2 x7_19 x8_21 = some r) ∧ Aside0 (kq ≤ kj19) ∧ Aside0 (wc.heap[gb251]? = some (.cells #[.int .i64 a1_0, .int .i64 a1_1] 42 (0, 0))) ∧ Aside0 (Below w.heap.size w wc))
                case first =>
                  have H := HC22.out
                  clear HC22
                  by_cases c23 : x8_15 ≥ (a0.size : Int)
                  · rw [if_pos c23] at H
                    have c23b0 : decide ((a0.size : Int) ≤ x8_15) = true := decide_eq_true c23
                    clear c23
                    (first | rw [c23b0] | (simp only [i64_w, i32_w]; rw [c23b0]) | skip)
                    have H' := Aside0.mk H
                    clear H
                    go_wp2
                    go_meet
                    case rel => exact ⟨_, (wrap64 ((a0.size : Int) - 1)), (by first | rfl | (simp; done) | (simp [*]; done)), H', ⟨by have := HJ3.out; have := HJ15.out; have := HJ19.out; first | omega | exact Nat.le_refl _⟩, ⟨by (with_reducible repeat (first | refine blk_drewN ?_ _ | refine blk_drew ?_ | refine blk_alloc ?_ _)); exact BK251.out⟩, ⟨by repeat (first | (with_reducible first | exact HB.out | apply below_alloc | apply pw_below_drewN | apply below_drew1 | refine below_set ?_ GE251.out) | exact HB.out)⟩⟩
                  · rw [if_neg c23] at H
                    have c23b0 : decide ((a0.size : Int) ≤ x8_15) = false := decide_eq_false c23
                    clear c23
                    (first | rw [c23b0] | (simp only [i64_w, i32_w]; rw [c23b0]) | skip)
                    have H' := Aside0.mk H
                    clear H
                    go_wp2
                    go_meet
                    case rel => exact ⟨_, (x8_15), (by first | rfl | (simp; done) | (simp [*]; done)), H', ⟨by have := HJ3.out; have := HJ15.out; have := HJ19.out; first | omega | exact Nat.le_refl _⟩, ⟨by (with_reducible repeat (first | refine blk_drewN ?_ _ | refine blk_drew ?_ | refine blk_alloc ?_ _)); exact BK251.out⟩, ⟨by repeat (first | (with_reducible first | exact HB.out | apply below_alloc | apply pw_below_drewN | apply below_drew1 | refine below_set ?_ GE251.out) | exact HB.out)⟩⟩
                case rest =>
                  clear HC22
                  try clear c1
                  try clear c2
                  try clear p2
                  try clear c3
                  try clear c6
                  try clear c6b0
                  try clear p6
                  try clear c8
                  try clear c8b0
                  try clear c10
                  try clear c10b0
                  try clear c12
                  try clear c12b0
                  try clear c15
                  try clear c18
                  try clear c18b0
                  try clear c18b1
                  try clear c21
                  try clear c21b0
                  try clear c23
                  try clear c23b0
                  try clear hcz11_0
                  try clear hcz11_1
                  try clear hcz13_0
                  try clear hcz13_1
                  try clear hcz14_0
                  try clear hcz14_1
                  try clear hcz17_0
                  try clear hcz17_1
                  try clear hcz19_0
                  try clear hcz19_1
                  try clear hcz7_0
                  try clear hcz7_1
                  try clear hcz9_0
                  try clear hcz9_1
                  try clear hfz11_0
                  try clear hfz11_1
                  try clear hfz13_0
                  try clear hfz13_1
                  try clear hfz14_0
                  try clear hfz14_1
                  try clear hfz17_0
                  try clear hfz17_1
                  try clear hfz19_0
                  try clear hfz19_1
                  try clear hfz7_0
                  try clear hfz7_1
                  try clear hfz9_0
                  try clear hfz9_1
                  try clear p2
                  try clear p6
                  obtain ⟨kq, x8_21, rfl, HA, HJ21, BK251, HB⟩ := hcut
                  cases kq with
                  | zero => exact absurd HA.out (by simp [codesearchref01_Excerpt.j3])
                  | succ kj21 =>
                    have H := HA.out
                    clear HA
                    simp only [codesearchref01_Excerpt.j3] at H
                    replace H := Option.bind_eq_some_iff.mp H
                    obtain ⟨t252, A240, H⟩ := H
                    replace H : ((codesearchref01_line.f kj21 a0 x8_21).bind fun t253 => ((codesearchref01_Lines.f kj21 a0).bind fun t254 => (codesearchref01_Excerpt.l0 kj21 a2 t252 t253 t254 (⟨#[]⟩ : ByteArray) 0))) = some r := H
                    have A24 := Aside0.mk A240
                    clear A240
                    replace H := Option.bind_eq_some_iff.mp H
                    obtain ⟨t253, A250, H⟩ := H
                    replace H : ((codesearchref01_Lines.f kj21 a0).bind fun t254 => (codesearchref01_Excerpt.l0 kj21 a2 t252 t253 t254 (⟨#[]⟩ : ByteArray) 0)) = some r := H
                    have A25 := Aside0.mk A250
                    clear A250
                    replace H := Option.bind_eq_some_iff.mp H
                    obtain ⟨t254, A260, H⟩ := H
                    replace H : (codesearchref01_Excerpt.l0 kj21 a2 t252 t253 t254 (⟨#[]⟩ : ByteArray) 0) = some r := H
                    have A26 := Aside0.mk A260
                    clear A260
                    have H' := Aside0.mk H
                    clear H
                    go_wp2_with (first | ((with_reducible refine gate_callee (f := 39) rfl ?_); refine goesL_ (some 68) rfl rfl Try.func39 (by kernel_rfl) rfl #[.string a0, .int .i64 x7_19] rfl (by (try simp only [List.map_toArray, List.map_cons, List.map_nil]); first | done | rfl | (simp only [List.length_drop, List.length_take]; rfl)) ?_; (with_reducible refine (codesearchref01_line.calls kj21 a0 x7_19 t252 _ A24.out).mono ?_); rintro e w' ⟨rfl, ⟨nd, rfl⟩⟩; refine ⟨_, rfl, ?_⟩) | ((with_reducible refine gate_callee (f := 39) rfl ?_); refine goesL_ (some 71) rfl rfl Try.func39 (by kernel_rfl) rfl #[.string a0, .int .i64 x8_21] rfl (by (try simp only [List.map_toArray, List.map_cons, List.map_nil]); first | done | rfl | (simp only [List.length_drop, List.length_take]; rfl)) ?_; (with_reducible refine (codesearchref01_line.calls kj21 a0 x8_21 t253 _ A25.out).mono ?_); rintro e w' ⟨rfl, ⟨nd, rfl⟩⟩; refine ⟨_, rfl, ?_⟩) | ((with_reducible refine gate_callee (f := 18) rfl ?_); refine goesL_ (some 73) rfl rfl Try.func18 (by kernel_rfl) rfl #[.string a0] rfl (by (try simp only [List.map_toArray, List.map_cons, List.map_nil]); first | done | rfl | (simp only [List.length_drop, List.length_take]; rfl)) ?_; (with_reducible refine (codesearchref01_Lines.calls kj21 a0 t254 _ A26.out).mono ?_); rintro e w27 ⟨v255, rfl, ho0, hb⟩; refine ⟨_, rfl, ?_⟩; have n0_ := Aside0.mk (Kd.R_lower ho0 (below_size (by repeat (first | (with_reducible first | exact HB.out | apply below_alloc | apply pw_below_drewN | apply below_drew1 | refine below_set ?_ GE251.out) | exact HB.out)))); have n1_ := Aside0.mk (blk_below (g := gb251) (o := .cells #[.int .i64 a1_0, .int .i64 a1_1] 42 (0, 0)) (by (with_reducible repeat (first | refine blk_drewN ?_ _ | refine blk_drew ?_ | refine blk_alloc ?_ _)); exact BK251.out) hb); have n2_ := Aside0.mk (below_step (by repeat (first | (with_reducible first | exact HB.out | apply below_alloc | apply pw_below_drewN | apply below_drew1 | refine below_set ?_ GE251.out) | exact HB.out)) hb); clear BK251; clear HB; have HO256 := n0_; have BK251 := n1_; have HB := n2_; clear n0_ n1_ n2_; (try clear hb); (try clear hb2); (try clear hk); (try clear hi); (try clear ho0)))
                    go_loopg [12, 13] kj21 (fun kq v12 v13 w' => ∃ (x12_5 : ByteArray) (x13_5 : Int), v12 = .string x12_5 ∧ v13 = .int .i64 x13_5 ∧ Aside0 (codesearchref01_Excerpt.l0 kq a2 t252 t253 t254 x12_5 x13_5 = some r) ∧ Aside0 (kq ≤ kj21) ∧ Aside0 (Kd.R Kd.string 9 w' w.heap.size (fun _ => True) v255 t254) ∧ Aside0 (w'.heap[gb251]? = some (.cells #[.int .i64 a1_0, .int .i64 a1_1] 42 (0, 0))) ∧ Aside0 (Below w.heap.size w w'))
                    case atStart => exact ⟨((⟨#[]⟩ : ByteArray)), (0), (by first | rfl | (simp; done) | (simp [*]; done)), (by first | rfl | (simp; done) | (simp [*]; done)), H', ⟨Nat.le_refl _⟩, ⟨by (with_reducible repeat (first | apply Kd.R_alloc | apply Kd.R_drewN | apply Kd.R_drew)); exact HO256.out⟩, ⟨by (with_reducible repeat (first | refine blk_drewN ?_ _ | refine blk_drew ?_ | refine blk_alloc ?_ _)); exact BK251.out⟩, ⟨by repeat (first | (with_reducible first | exact HB.out | apply below_alloc | apply pw_below_drewN | apply below_drew1 | refine below_set ?_ GE251.out) | exact HB.out)⟩⟩
                    case round =>
                      clear H'
                      try clear c1
                      try clear c2
                      try clear p2
                      try clear c3
                      try clear c6
                      try clear c6b0
                      try clear p6
                      try clear c8
                      try clear c8b0
                      try clear c10
                      try clear c10b0
                      try clear c12
                      try clear c12b0
                      try clear c15
                      try clear c18
                      try clear c18b0
                      try clear c18b1
                      try clear c21
                      try clear c21b0
                      try clear c23
                      try clear c23b0
                      try clear hcz11_0
                      try clear hcz11_1
                      try clear hcz13_0
                      try clear hcz13_1
                      try clear hcz14_0
                      try clear hcz14_1
                      try clear hcz17_0
                      try clear hcz17_1
                      try clear hcz19_0
                      try clear hcz19_1
                      try clear hcz7_0
                      try clear hcz7_1
                      try clear hcz9_0
                      try clear hcz9_1
                      try clear hfz11_0
                      try clear hfz11_1
                      try clear hfz13_0
                      try clear hfz13_1
                      try clear hfz14_0
                      try clear hfz14_1
                      try clear hfz17_0
                      try clear hfz17_1
                      try clear hfz19_0
                      try clear hfz19_1
                      try clear hfz7_0
                      try clear hfz7_1
                      try clear hfz9_0
                      try clear hfz9_1
                      try clear p2
                      try clear p6
                      obtain ⟨x12_5, x13_5, rfl, rfl, HA, HK5, HO_11, BK251, HB⟩ := hrel
                      cases gk with
                      | zero => exact absurd HA.out (by simp [codesearchref01_Excerpt.l0])
                      | succ k5 =>
                        have H := HA.out
                        clear HA
                        simp only [codesearchref01_Excerpt.l0] at H
                        by_cases c28 : x13_5 < (t254.length : Int)
                        · rw [if_pos c28] at H
                          have c28b0 : decide (x13_5 < (t254.length : Int)) = true := decide_eq_true c28
                          clear c28
                          by_cases c29 : x13_5 < t252
                          · rw [if_pos c29] at H
                            have c29b0 : decide (x13_5 < t252) = true := decide_eq_true c29
                            clear c29
                            by_cases c30 : (wrap64 (t252 - x13_5)) > a2
                            · rw [if_pos c30] at H
                              have c30b0 : decide (a2 < (wrap64 (t252 - x13_5))) = true := decide_eq_true c30
                              clear c30
                              have H' := Aside0.mk H
                              clear H
                              obtain ⟨Ao31, co31, eo31⟩ := Kd.R_slice HO_11.out
                              subst eo31
                              go_wp2
                              go_roundg k5
                              case measure => have := HJ3.out; have := HJ15.out; have := HJ19.out; have := HJ21.out; have := HK5.out; omega
                              case rel => exact ⟨(x12_5), (wrap64 (x13_5 + 1)), (by first | rfl | (simp; done) | (simp [*]; done)), (by first | rfl | (simp; done) | (simp [*]; done)), H', ⟨by have := HJ3.out; have := HJ15.out; have := HJ19.out; have := HJ21.out; have := HK5.out; omega⟩, ⟨by (with_reducible repeat (first | apply Kd.R_alloc | apply Kd.R_drewN | apply Kd.R_drew)); exact HO_11.out⟩, ⟨by (with_reducible repeat (first | refine blk_drewN ?_ _ | refine blk_drew ?_ | refine blk_alloc ?_ _)); exact BK251.out⟩, ⟨by repeat (first | (with_reducible first | exact HB.out | apply below_alloc | apply pw_below_drewN | apply below_drew1 | refine below_set ?_ GE251.out) | exact HB.out)⟩⟩
                            · rw [if_neg c30] at H
                              have c30b0 : decide (a2 < (wrap64 (t252 - x13_5))) = false := decide_eq_false c30
                              clear c30
                              by_cases c32 : x13_5 > t253
                              · rw [if_pos c32] at H
                                have c32b0 : decide (t253 < x13_5) = true := decide_eq_true c32
                                clear c32
                                by_cases c33 : (wrap64 (x13_5 - t253)) > a2
                                · rw [if_pos c33] at H
                                  have c33b0 : decide (a2 < (wrap64 (x13_5 - t253))) = true := decide_eq_true c33
                                  clear c33
                                  have H' := Aside0.mk H
                                  clear H
                                  obtain ⟨Ao34, co34, eo34⟩ := Kd.R_slice HO_11.out
                                  subst eo34
                                  go_wp2
                                  go_roundg k5
                                  case measure => have := HJ3.out; have := HJ15.out; have := HJ19.out; have := HJ21.out; have := HK5.out; omega
                                  case rel => exact ⟨(x12_5), (wrap64 (x13_5 + 1)), (by first | rfl | (simp; done) | (simp [*]; done)), (by first | rfl | (simp; done) | (simp [*]; done)), H', ⟨by have := HJ3.out; have := HJ15.out; have := HJ19.out; have := HJ21.out; have := HK5.out; omega⟩, ⟨by (with_reducible repeat (first | apply Kd.R_alloc | apply Kd.R_drewN | apply Kd.R_drew)); exact HO_11.out⟩, ⟨by (with_reducible repeat (first | refine blk_drewN ?_ _ | refine blk_drew ?_ | refine blk_alloc ?_ _)); exact BK251.out⟩, ⟨by repeat (first | (with_reducible first | exact HB.out | apply below_alloc | apply pw_below_drewN | apply below_drew1 | refine below_set ?_ GE251.out) | exact HB.out)⟩⟩
                                · rw [if_neg c33] at H
                                  have c33b0 : decide (a2 < (wrap64 (x13_5 - t253))) = false := decide_eq_false c33
                                  clear c33
                                  by_cases c35 : 0 ≤ x13_5
                                  · rw [if_pos c35] at H
                                    have c35b0 : decide (0 ≤ x13_5) = true := decide_eq_true c35
                                    clear c35
                                    by_cases c36 : x12_5.size + (rdOf ByteArray.empty t254 x13_5).size ≤ 9223372036854775807
                                    · rw [if_pos c36] at H
                                      have c36b0 := eq_true c36
                                      have c36b1 : decide (x12_5.size + (rdOf ByteArray.empty t254 x13_5).size ≤ 9223372036854775807) = true := decide_eq_true c36
                                      try have c36b2 : (9223372036854775807 < x12_5.size + (rdOf ByteArray.empty t254 x13_5).size) = False := eq_false (Nat.not_lt.2 c36)
                                      by_cases c37 : (x12_5 ++ (rdOf ByteArray.empty t254 x13_5)).size + 1 ≤ 9223372036854775807
                                      · rw [if_pos c37] at H
                                        have c37b0 := eq_true c37
                                        have c37b1 : decide ((x12_5 ++ (rdOf ByteArray.empty t254 x13_5)).size + 1 ≤ 9223372036854775807) = true := decide_eq_true c37
                                        have c37b4 := eq_true (show x12_5.size + (rdOf ByteArray.empty t254 x13_5).size + 1 ≤ 9223372036854775807 from by simpa only [ByteArray.size_append] using c37)
                                        try have c37b5 : (9223372036854775807 < x12_5.size + (rdOf ByteArray.empty t254 x13_5).size + 1) = False := eq_false (Nat.not_lt.2 (by simpa only [ByteArray.size_append] using c37))
                                        try have c37b2 : (9223372036854775807 < (x12_5 ++ (rdOf ByteArray.empty t254 x13_5)).size + 1) = False := eq_false (Nat.not_lt.2 c37)
                                        have H' := Aside0.mk H
                                        clear H
                                        obtain ⟨Ao38, co38, eo38⟩ := Kd.R_slice HO_11.out
                                        subst eo38
                                        have p257 : 0 ≤ (x13_5 : Int) := of_decide_eq_true (by first | (with_reducible assumption) | assumption)
                                        have q257 : x13_5 < (t254.length : Int) := of_decide_eq_true (by first | (with_reducible assumption) | assumption)
                                        obtain ⟨ad257, e257, hx257_0⟩ := Kd.at_string (Kd.R_reads' HO_11.out).2.2 x13_5 p257 q257
                                        cases e257
                                        replace p257 := eq_true p257
                                        replace q257 := eq_true q257
                                        go_wp2
                                        go_roundg k5
                                        case measure => have := HJ3.out; have := HJ15.out; have := HJ19.out; have := HJ21.out; have := HK5.out; omega
                                        case rel => exact ⟨((x12_5 ++ (rdOf ByteArray.empty t254 x13_5)) ++ (⟨#[10]⟩ : ByteArray)), (wrap64 (x13_5 + 1)), (by first | rfl | (simp; done) | (simp [*]; done)), (by first | rfl | (simp; done) | (simp [*]; done)), H', ⟨by have := HJ3.out; have := HJ15.out; have := HJ19.out; have := HJ21.out; have := HK5.out; omega⟩, ⟨by (with_reducible repeat (first | apply Kd.R_alloc | apply Kd.R_drewN | apply Kd.R_drew)); exact HO_11.out⟩, ⟨by (with_reducible repeat (first | refine blk_drewN ?_ _ | refine blk_drew ?_ | refine blk_alloc ?_ _)); exact BK251.out⟩, ⟨by repeat (first | (with_reducible first | exact HB.out | apply below_alloc | apply pw_below_drewN | apply below_drew1 | refine below_set ?_ GE251.out) | exact HB.out)⟩⟩
                                      · rw [if_neg c37] at H
                                        exact absurd H (by simp)
                                    · rw [if_neg c36] at H
                                      exact absurd H (by simp)
                                  · rw [if_neg c35] at H
                                    exact absurd H (by simp)
                              · rw [if_neg c32] at H
                                have c32b0 : decide (t253 < x13_5) = false := decide_eq_false c32
                                clear c32
                                by_cases c39 : 0 ≤ x13_5
                                · rw [if_pos c39] at H
                                  have c39b0 : decide (0 ≤ x13_5) = true := decide_eq_true c39
                                  clear c39
                                  by_cases c40 : x12_5.size + (rdOf ByteArray.empty t254 x13_5).size ≤ 9223372036854775807
                                  · rw [if_pos c40] at H
                                    have c40b0 := eq_true c40
                                    have c40b1 : decide (x12_5.size + (rdOf ByteArray.empty t254 x13_5).size ≤ 9223372036854775807) = true := decide_eq_true c40
                                    try have c40b2 : (9223372036854775807 < x12_5.size + (rdOf ByteArray.empty t254 x13_5).size) = False := eq_false (Nat.not_lt.2 c40)
                                    by_cases c41 : (x12_5 ++ (rdOf ByteArray.empty t254 x13_5)).size + 1 ≤ 9223372036854775807
                                    · rw [if_pos c41] at H
                                      have c41b0 := eq_true c41
                                      have c41b1 : decide ((x12_5 ++ (rdOf ByteArray.empty t254 x13_5)).size + 1 ≤ 9223372036854775807) = true := decide_eq_true c41
                                      have c41b4 := eq_true (show x12_5.size + (rdOf ByteArray.empty t254 x13_5).size + 1 ≤ 9223372036854775807 from by simpa only [ByteArray.size_append] using c41)
                                      try have c41b5 : (9223372036854775807 < x12_5.size + (rdOf ByteArray.empty t254 x13_5).size + 1) = False := eq_false (Nat.not_lt.2 (by simpa only [ByteArray.size_append] using c41))
                                      try have c41b2 : (9223372036854775807 < (x12_5 ++ (rdOf ByteArray.empty t254 x13_5)).size + 1) = False := eq_false (Nat.not_lt.2 c41)
                                      have H' := Aside0.mk H
                                      clear H
                                      obtain ⟨Ao42, co42, eo42⟩ := Kd.R_slice HO_11.out
                                      subst eo42
                                      have p258 : 0 ≤ (x13_5 : Int) := of_decide_eq_true (by first | (with_reducible assumption) | assumption)
                                      have q258 : x13_5 < (t254.length : Int) := of_decide_eq_true (by first | (with_reducible assumption) | assumption)
                                      obtain ⟨ad258, e258, hx258_0⟩ := Kd.at_string (Kd.R_reads' HO_11.out).2.2 x13_5 p258 q258
                                      cases e258
                                      replace p258 := eq_true p258
                                      replace q258 := eq_true q258
                                      go_wp2
                                      go_roundg k5
                                      case measure => have := HJ3.out; have := HJ15.out; have := HJ19.out; have := HJ21.out; have := HK5.out; omega
                                      case rel => exact ⟨((x12_5 ++ (rdOf ByteArray.empty t254 x13_5)) ++ (⟨#[10]⟩ : ByteArray)), (wrap64 (x13_5 + 1)), (by first | rfl | (simp; done) | (simp [*]; done)), (by first | rfl | (simp; done) | (simp [*]; done)), H', ⟨by have := HJ3.out; have := HJ15.out; have := HJ19.out; have := HJ21.out; have := HK5.out; omega⟩, ⟨by (with_reducible repeat (first | apply Kd.R_alloc | apply Kd.R_drewN | apply Kd.R_drew)); exact HO_11.out⟩, ⟨by (with_reducible repeat (first | refine blk_drewN ?_ _ | refine blk_drew ?_ | refine blk_alloc ?_ _)); exact BK251.out⟩, ⟨by repeat (first | (with_reducible first | exact HB.out | apply below_alloc | apply pw_below_drewN | apply below_drew1 | refine below_set ?_ GE251.out) | exact HB.out)⟩⟩
                                    · rw [if_neg c41] at H
                                      exact absurd H (by simp)
                                  · rw [if_neg c40] at H
                                    exact absurd H (by simp)
                                · rw [if_neg c39] at H
                                  exact absurd H (by simp)
                          · rw [if_neg c29] at H
                            have c29b0 : decide (x13_5 < t252) = false := decide_eq_false c29
                            clear c29
                            by_cases c43 : x13_5 > t253
                            · rw [if_pos c43] at H
                              have c43b0 : decide (t253 < x13_5) = true := decide_eq_true c43
                              clear c43
                              by_cases c44 : (wrap64 (x13_5 - t253)) > a2
                              · rw [if_pos c44] at H
                                have c44b0 : decide (a2 < (wrap64 (x13_5 - t253))) = true := decide_eq_true c44
                                clear c44
                                have H' := Aside0.mk H
                                clear H
                                obtain ⟨Ao45, co45, eo45⟩ := Kd.R_slice HO_11.out
                                subst eo45
                                go_wp2
                                go_roundg k5
                                case measure => have := HJ3.out; have := HJ15.out; have := HJ19.out; have := HJ21.out; have := HK5.out; omega
                                case rel => exact ⟨(x12_5), (wrap64 (x13_5 + 1)), (by first | rfl | (simp; done) | (simp [*]; done)), (by first | rfl | (simp; done) | (simp [*]; done)), H', ⟨by have := HJ3.out; have := HJ15.out; have := HJ19.out; have := HJ21.out; have := HK5.out; omega⟩, ⟨by (with_reducible repeat (first | apply Kd.R_alloc | apply Kd.R_drewN | apply Kd.R_drew)); exact HO_11.out⟩, ⟨by (with_reducible repeat (first | refine blk_drewN ?_ _ | refine blk_drew ?_ | refine blk_alloc ?_ _)); exact BK251.out⟩, ⟨by repeat (first | (with_reducible first | exact HB.out | apply below_alloc | apply pw_below_drewN | apply below_drew1 | refine below_set ?_ GE251.out) | exact HB.out)⟩⟩
                              · rw [if_neg c44] at H
                                have c44b0 : decide (a2 < (wrap64 (x13_5 - t253))) = false := decide_eq_false c44
                                clear c44
                                by_cases c46 : 0 ≤ x13_5
                                · rw [if_pos c46] at H
                                  have c46b0 : decide (0 ≤ x13_5) = true := decide_eq_true c46
                                  clear c46
                                  by_cases c47 : x12_5.size + (rdOf ByteArray.empty t254 x13_5).size ≤ 9223372036854775807
                                  · rw [if_pos c47] at H
                                    have c47b0 := eq_true c47
                                    have c47b1 : decide (x12_5.size + (rdOf ByteArray.empty t254 x13_5).size ≤ 9223372036854775807) = true := decide_eq_true c47
                                    try have c47b2 : (9223372036854775807 < x12_5.size + (rdOf ByteArray.empty t254 x13_5).size) = False := eq_false (Nat.not_lt.2 c47)
                                    by_cases c48 : (x12_5 ++ (rdOf ByteArray.empty t254 x13_5)).size + 1 ≤ 9223372036854775807
                                    · rw [if_pos c48] at H
                                      have c48b0 := eq_true c48
                                      have c48b1 : decide ((x12_5 ++ (rdOf ByteArray.empty t254 x13_5)).size + 1 ≤ 9223372036854775807) = true := decide_eq_true c48
                                      have c48b4 := eq_true (show x12_5.size + (rdOf ByteArray.empty t254 x13_5).size + 1 ≤ 9223372036854775807 from by simpa only [ByteArray.size_append] using c48)
                                      try have c48b5 : (9223372036854775807 < x12_5.size + (rdOf ByteArray.empty t254 x13_5).size + 1) = False := eq_false (Nat.not_lt.2 (by simpa only [ByteArray.size_append] using c48))
                                      try have c48b2 : (9223372036854775807 < (x12_5 ++ (rdOf ByteArray.empty t254 x13_5)).size + 1) = False := eq_false (Nat.not_lt.2 c48)
                                      have H' := Aside0.mk H
                                      clear H
                                      obtain ⟨Ao49, co49, eo49⟩ := Kd.R_slice HO_11.out
                                      subst eo49
                                      have p259 : 0 ≤ (x13_5 : Int) := of_decide_eq_true (by first | (with_reducible assumption) | assumption)
                                      have q259 : x13_5 < (t254.length : Int) := of_decide_eq_true (by first | (with_reducible assumption) | assumption)
                                      obtain ⟨ad259, e259, hx259_0⟩ := Kd.at_string (Kd.R_reads' HO_11.out).2.2 x13_5 p259 q259
                                      cases e259
                                      replace p259 := eq_true p259
                                      replace q259 := eq_true q259
                                      go_wp2
                                      go_roundg k5
                                      case measure => have := HJ3.out; have := HJ15.out; have := HJ19.out; have := HJ21.out; have := HK5.out; omega
                                      case rel => exact ⟨((x12_5 ++ (rdOf ByteArray.empty t254 x13_5)) ++ (⟨#[10]⟩ : ByteArray)), (wrap64 (x13_5 + 1)), (by first | rfl | (simp; done) | (simp [*]; done)), (by first | rfl | (simp; done) | (simp [*]; done)), H', ⟨by have := HJ3.out; have := HJ15.out; have := HJ19.out; have := HJ21.out; have := HK5.out; omega⟩, ⟨by (with_reducible repeat (first | apply Kd.R_alloc | apply Kd.R_drewN | apply Kd.R_drew)); exact HO_11.out⟩, ⟨by (with_reducible repeat (first | refine blk_drewN ?_ _ | refine blk_drew ?_ | refine blk_alloc ?_ _)); exact BK251.out⟩, ⟨by repeat (first | (with_reducible first | exact HB.out | apply below_alloc | apply pw_below_drewN | apply below_drew1 | refine below_set ?_ GE251.out) | exact HB.out)⟩⟩
                                    · rw [if_neg c48] at H
                                      exact absurd H (by simp)
                                  · rw [if_neg c47] at H
                                    exact absurd H (by simp)
                                · rw [if_neg c46] at H
                                  exact absurd H (by simp)
                            · rw [if_neg c43] at H
                              have c43b0 : decide (t253 < x13_5) = false := decide_eq_false c43
                              clear c43
                              by_cases c50 : 0 ≤ x13_5
                              · rw [if_pos c50] at H
                                have c50b0 : decide (0 ≤ x13_5) = true := decide_eq_true c50
                                clear c50
                                by_cases c51 : x12_5.size + (rdOf ByteArray.empty t254 x13_5).size ≤ 9223372036854775807
                                · rw [if_pos c51] at H
                                  have c51b0 := eq_true c51
                                  have c51b1 : decide (x12_5.size + (rdOf ByteArray.empty t254 x13_5).size ≤ 9223372036854775807) = true := decide_eq_true c51
                                  try have c51b2 : (9223372036854775807 < x12_5.size + (rdOf ByteArray.empty t254 x13_5).size) = False := eq_false (Nat.not_lt.2 c51)
                                  by_cases c52 : (x12_5 ++ (rdOf ByteArray.empty t254 x13_5)).size + 1 ≤ 9223372036854775807
                                  · rw [if_pos c52] at H
                                    have c52b0 := eq_true c52
                                    have c52b1 : decide ((x12_5 ++ (rdOf ByteArray.empty t254 x13_5)).size + 1 ≤ 9223372036854775807) = true := decide_eq_true c52
                                    have c52b4 := eq_true (show x12_5.size + (rdOf ByteArray.empty t254 x13_5).size + 1 ≤ 9223372036854775807 from by simpa only [ByteArray.size_append] using c52)
                                    try have c52b5 : (9223372036854775807 < x12_5.size + (rdOf ByteArray.empty t254 x13_5).size + 1) = False := eq_false (Nat.not_lt.2 (by simpa only [ByteArray.size_append] using c52))
                                    try have c52b2 : (9223372036854775807 < (x12_5 ++ (rdOf ByteArray.empty t254 x13_5)).size + 1) = False := eq_false (Nat.not_lt.2 c52)
                                    have H' := Aside0.mk H
                                    clear H
                                    obtain ⟨Ao53, co53, eo53⟩ := Kd.R_slice HO_11.out
                                    subst eo53
                                    have p260 : 0 ≤ (x13_5 : Int) := of_decide_eq_true (by first | (with_reducible assumption) | assumption)
                                    have q260 : x13_5 < (t254.length : Int) := of_decide_eq_true (by first | (with_reducible assumption) | assumption)
                                    obtain ⟨ad260, e260, hx260_0⟩ := Kd.at_string (Kd.R_reads' HO_11.out).2.2 x13_5 p260 q260
                                    cases e260
                                    replace p260 := eq_true p260
                                    replace q260 := eq_true q260
                                    go_wp2
                                    go_roundg k5
                                    case measure => have := HJ3.out; have := HJ15.out; have := HJ19.out; have := HJ21.out; have := HK5.out; omega
                                    case rel => exact ⟨((x12_5 ++ (rdOf ByteArray.empty t254 x13_5)) ++ (⟨#[10]⟩ : ByteArray)), (wrap64 (x13_5 + 1)), (by first | rfl | (simp; done) | (simp [*]; done)), (by first | rfl | (simp; done) | (simp [*]; done)), H', ⟨by have := HJ3.out; have := HJ15.out; have := HJ19.out; have := HJ21.out; have := HK5.out; omega⟩, ⟨by (with_reducible repeat (first | apply Kd.R_alloc | apply Kd.R_drewN | apply Kd.R_drew)); exact HO_11.out⟩, ⟨by (with_reducible repeat (first | refine blk_drewN ?_ _ | refine blk_drew ?_ | refine blk_alloc ?_ _)); exact BK251.out⟩, ⟨by repeat (first | (with_reducible first | exact HB.out | apply below_alloc | apply pw_below_drewN | apply below_drew1 | refine below_set ?_ GE251.out) | exact HB.out)⟩⟩
                                  · rw [if_neg c52] at H
                                    exact absurd H (by simp)
                                · rw [if_neg c51] at H
                                  exact absurd H (by simp)
                              · rw [if_neg c50] at H
                                exact absurd H (by simp)
                        · rw [if_neg c28] at H
                          have c28b0 : decide (x13_5 < (t254.length : Int)) = false := decide_eq_false c28
                          clear c28
                          obtain rfl := Option.some.inj H
                          obtain ⟨Ao54, co54, eo54⟩ := Kd.R_slice HO_11.out
                          subst eo54
                          go_wp2
                          go_ret
                          exact ⟨by first | rfl | (simp [errW_none, errW_some] <;> rfl) | (simp [*, errW_none, errW_some] <;> rfl), by repeat (first | (with_reducible first | exact HB.out | apply below_alloc | apply pw_below_drewN | apply below_drew1 | refine below_set ?_ GE251.out) | exact HB.out)⟩

end Go.Proofs.Ytkklemjidocngaa.PAll
