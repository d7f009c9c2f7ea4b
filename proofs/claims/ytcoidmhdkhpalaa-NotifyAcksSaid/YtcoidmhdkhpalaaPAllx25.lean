-- Written by this session's program hprint.py over the kit's print. Not trusted: Lean checks it.
import Derived.Test.YtcoidmhdkhpalaaPAllx0
import Derived.Test.YtcoidmhdkhpalaaPAllx7
import Derived.Test.YtcoidmhdkhpalaaPAllx8
import Derived.Test.YtcoidmhdkhpalaaPAllx13
import Derived.Test.YtcoidmhdkhpalaaPAllx15
import Derived.Test.YtcoidmhdkhpalaaPAllx16
import Derived.Test.YtcoidmhdkhpalaaPAllx24
namespace Go.Proofs.Ytcoidmhdkhpalaa.PAll
open Go.RowKit Go.Proofs.YtcoidmhdkhpalaaW.PrintWords Go.Proofs.YtcoidmhdkhpalaaW.PrintLast Go.Proofs.YtcoidmhdkhpalaaW.PrintMore
attribute [local go_sem] max2_int min2_int max_two min_two max_three min_three max_four min_four   -- for this text's walks alone
set_option linter.unusedVariables false
set_option linter.unusedSimpArgs false

/-! ### codesearchlaw49_NotifyAcks: function 5 -/
theorem z5_ {B : Nat} {w w' : World} (h : Below B w w' := by repeat (first | (with_reducible first | exact Aside0.out (by assumption) | apply below_alloc | apply pw_below_drewN | apply below_drew1 | refine below_set ?_ (Aside0.out (by assumption))) | exact Aside0.out (by assumption))) : Below B w w' := h
theorem r5_ {α : Type} {d : Kd α} {e base : Nat} {ok : Nat → Prop} {w w1 : World} {v : Value} {xs : List α} (h : d.R e w base ok v xs) (hb : Below w.heap.size w w1 := by (with_reducible repeat (first | apply below_alloc | apply pw_below_drewN | apply below_drew1)); exact Below.refl _ _) : d.R e w1 base ok v xs := Kd.R_below h hb
theorem k5_ {w w1 : World} {g : Nat} {o : Obj} (h : w.heap[g]? = some o) (hb : Below w.heap.size w w1 := by (with_reducible repeat (first | apply below_alloc | apply pw_below_drewN | apply below_drew1)); exact Below.refl _ _) : w1.heap[g]? = some o := blk_below h hb
abbrev b5_0 : Array Bool := #[false, false, false, false, false, false, false, false, false, false, false, false, false, false, false]
abbrev b5_1 : Array Bool := #[false, true, false, false, false, false, false, false, false, false, false, false, false, false, false]
abbrev b5_2 : Array Bool := #[false, true, false, false, true, false, false, false, false, false, false, false, false, false, false]
abbrev b5_3 : Array Bool := #[true, true, false, false, true, false, false, false, false, false, false, false, false, false, false]
abbrev b5_4 : Array Bool := #[true, true, false, true, true, false, false, false, false, false, false, false, false, false, false]
abbrev b5_5 : Array Bool := #[true, true, true, true, true, false, false, false, false, false, false, false, false, false, false]
abbrev b5_6 : Array Bool := #[true, true, true, true, true, true, false, false, false, false, false, false, false, false, false]
abbrev b5_7 : Array Bool := #[true, true, true, true, true, true, true, false, false, false, false, false, false, false, false]
abbrev b5_8 : Array Bool := #[true, true, true, true, true, true, true, true, false, false, false, false, false, false, false]
abbrev b5_9 : Array Bool := #[true, true, true, true, true, true, true, true, true, true, true, true, false, false, false]
abbrev b5_10 : Array Bool := #[true, true, true, true, true, true, true, true, true, true, true, true, true, false, false]
abbrev b5_11 : Array Bool := #[true, true, true, true, true, true, true, true, true, true, true, true, true, true, false]
abbrev b5_12 : Array Bool := #[true, true, true, true, true, true, true, true, true, true, true, true, true, true, true]
theorem q5_ {B : Nat} {w w' : World} (h : Below B w w') (n : Nat) : Below B w (w'.drewN n) := pw_below_drewN h n
theorem a5_ {p : Prop} (h : p) : Aside0 p := ⟨h⟩
theorem sT5_ {α : Type} (xs : List α) (i : Nat) (a : α) : xs.toArray.setIfInBounds i a = (xs.set i a).toArray := List.setIfInBounds_toArray xs i a
theorem sZ5_ {α : Type} (x a : α) (xs : List α) : (x :: xs).set 0 a = a :: xs := rfl
theorem sS5_ {α : Type} (x a : α) (xs : List α) (n : Nat) : (x :: xs).set (n + 1) a = x :: xs.set n a := rfl
def codesearchlaw49_NotifyAcks.f (k : Nat) (a0_0 : Int) (a0_1 : Int) (l0_2 : List (S38)) (a1 : Int) : Option (Bool) := (codesearchlaw49_alive.f k).bind fun t274 => (if t274 = true then (if (l0_2.length : Int) > 100 then (some true) else ((notify_Ack.f k a0_0 a0_1 l0_2 a1).bind fun bt275 => ((codesearchref49_Ack.f k a0_0 a0_1 l0_2 a1).bind fun bt280 => ((codesearchref49_SameOut.f k bt275.1 bt275.2.1 bt275.2.2 bt280.1 bt280.2.1 bt280.2.2).bind fun t285 => (if t285 = true then ((notify_Pending.f a0_0 a0_1 l0_2).bind fun t286 => ((codesearchref49_Letters.f k t286 l0_2).bind fun t289 => (some t289))) else (some false)))))) else (some false))
theorem codesearchlaw49_NotifyAcks.mono : ∀ a0 a1 a2 a3 k, LeO (codesearchlaw49_NotifyAcks.f k a0 a1 a2 a3) (codesearchlaw49_NotifyAcks.f (k + 1) a0 a1 a2 a3) := by
  intro a0 a1 a2 a3 k
  unfold codesearchlaw49_NotifyAcks.f
  repeat' first
      | (with_reducible exact LeO.refl _)
      | (with_reducible exact LeO.none _)
      | (with_reducible refine LeO.ite ?_ ?_)
      | (with_reducible refine LeO.bind ?_ (fun _ => ?_))
      | exact codesearchlaw49_alive.mono _
      | exact codesearchref49_Ack.mono _ _ _ _ _
      | exact codesearchref49_Letters.mono _ _ _
      | exact codesearchref49_SameOut.mono _ _ _ _ _ _ _
      | exact notify_Ack.mono _ _ _ _ _
      | exact LeO.none _
      | refine LeO.ite ?_ ?_
      | refine LeO.bind ?_ (fun _ => ?_)
def codesearchlaw49_NotifyAcks.T5 : Bool × List (List Nat × List Nat) := (true, [([], []), ([], []), ([0, 1], [0, 1]), ([], []), ([], []), ([3, 4, 2], [3, 4]), ([2, 5, 5], [2, 5]), ([6, 6], [6]), ([7], [7]), ([8, 7, 7], [7, 8]), ([7], [7]), ([10, 7], [7, 10]), ([9, 11, 9, 7], [7, 9, 11]), ([7, 12], [7, 12]), ([13, 12, 0, 1, 2, 3, 4, 5, 6, 7, 8, 9, 10, 11, 12, 13], [13])])
def codesearchlaw49_NotifyAcks.B5 : List Nat := [0, 0, 3, 0, 0, 31, 63, 127, 255, 511, 255, 1279, 4095, 8191, 16383]
theorem codesearchlaw49_NotifyAcks.tab5 : rtab .any (opsOf Try.f5 5) = codesearchlaw49_NotifyAcks.T5 := by kernel_rfl
theorem codesearchlaw49_NotifyAcks.bits5 : waitsOk codesearchlaw49_NotifyAcks.T5.2 codesearchlaw49_NotifyAcks.B5 = true := by kernel_rfl
set_option maxHeartbeats 8000000 in
set_option maxRecDepth 100000 in
theorem codesearchlaw49_NotifyAcks.calls (k : Nat) (a0_0 : Int) (a0_1 : Int) (A0_2 : Option Addr) (c0_2 : Nat) (l0_2 : List (S38)) (a1 : Int) (r : Bool) (w : World) (hr0_2 : Kd.C k38 w A0_2 l0_2.length l0_2) (hc0_2 : l0_2.length ≤ c0_2) (h : codesearchlaw49_NotifyAcks.f k a0_0 a0_1 l0_2 a1 = some r) :
    Calls Try.prog 5 #[.agg #[.int .i64 a0_0, .int .i64 a0_1, .slice A0_2 l0_2.length c0_2], .int .i64 a1] w fun e w' => e = .returned (.bool r) ∧ Below w.heap.size w w' := by
  have hu24 := Try.underlying24; have HR0_2 := a5_ hr0_2; have HC0_2 := a5_ hc0_2; clear hr0_2 hc0_2; have HB := a5_ (Below.refl w.heap.size w); have H : ((codesearchlaw49_alive.f k).bind fun t274 => (if t274 = true then (if (l0_2.length : Int) > 100 then (some true) else ((notify_Ack.f k a0_0 a0_1 l0_2 a1).bind fun bt275 => ((codesearchref49_Ack.f k a0_0 a0_1 l0_2 a1).bind fun bt280 => ((codesearchref49_SameOut.f k bt275.1 bt275.2.1 bt275.2.2 bt280.1 bt280.2.1 bt280.2.2).bind fun t285 => (if t285 = true then ((notify_Pending.f a0_0 a0_1 l0_2).bind fun t286 => ((codesearchref49_Letters.f k t286 l0_2).bind fun t289 => (some t289))) else (some false)))))) else (some false))) = some r := h; clear h; replace H := Option.bind_eq_some_iff.mp H; obtain ⟨t274, A30, H⟩ := H; replace H : (if t274 = true then (if (l0_2.length : Int) > 100 then (some true) else ((notify_Ack.f k a0_0 a0_1 l0_2 a1).bind fun bt275 => ((codesearchref49_Ack.f k a0_0 a0_1 l0_2 a1).bind fun bt280 => ((codesearchref49_SameOut.f k bt275.1 bt275.2.1 bt275.2.2 bt280.1 bt280.2.1 bt280.2.2).bind fun t285 => (if t285 = true then ((notify_Pending.f a0_0 a0_1 l0_2).bind fun t286 => ((codesearchref49_Letters.f k t286 l0_2).bind fun t289 => (some t289))) else (some false)))))) else (some false)) = some r := H; have A3 := a5_ A30; clear A30
  by_cases c4 : t274 = true
  · subst c4; have H1 : (if (l0_2.length : Int) > 100 then (some true) else ((notify_Ack.f k a0_0 a0_1 l0_2 a1).bind fun bt275 => ((codesearchref49_Ack.f k a0_0 a0_1 l0_2 a1).bind fun bt280 => ((codesearchref49_SameOut.f k bt275.1 bt275.2.1 bt275.2.2 bt280.1 bt280.2.1 bt280.2.2).bind fun t285 => (if t285 = true then ((notify_Pending.f a0_0 a0_1 l0_2).bind fun t286 => ((codesearchref49_Letters.f k t286 l0_2).bind fun t289 => (some t289))) else (some false)))))) = some r := by rw [if_pos rfl] at H; exact H
    clear H; have H := H1; clear H1
    by_cases c5 : (l0_2.length : Int) > 100
    · rw [if_pos c5] at H; have c5b0 : decide (100 < (l0_2.length : Int)) = true := decide_eq_true c5; have c5b1 : decide (100 < l0_2.length) = true := decide_eq_true (by omega); clear c5; obtain rfl := Option.some.inj H
      go_enter Try.func5, Try.ntmps5
      go_wp2_with (first | ((with_reducible refine gate_dst (N := 2) rfl ?_); refine box_event ?hg (N := 2) ?hd (cs := #[.int .i64 a0_0, .int .i64 a0_1, .slice A0_2 l0_2.length c0_2]) (t := 24) ?hr ?_; (case hd => rfl); (case hg => rfl); (case hr => first | (go_simp; done) | (go_simp; rfl)); intro gb273 hg w6 hbox hb; have BK273 := a5_ (hbox); have GW273 := a5_ ((by rw [hg]; exact (below_size z5_) : w.heap.size ≤ gb273)); have GE273 := a5_ ((by rw [hg]; exact (below_size z5_) : w.heap.size ≤ gb273)); replace HB := a5_ (below_step z5_ hb); clear hb hbox hg) | ((with_reducible refine gate_callee (f := 10) rfl ?_); refine goesL_ (some 5) rfl rfl Try.func10 (by kernel_rfl) rfl #[] rfl (by (try simp only [List.map_toArray, List.map_cons, List.map_nil]); first | done | rfl | (simp only [List.length_drop, List.length_take]; rfl)) ?_; (with_reducible refine (codesearchlaw49_alive.calls k  true _ A3.out).mono ?_); rintro e w7 ⟨rfl, hb⟩; refine ⟨_, rfl, ?_⟩; replace BK273 := a5_ (blk_below (k5_ BK273.out) hb); replace HB := a5_ (below_step z5_ hb); (try clear hb); (try clear hb2); (try clear hk); (try clear hi); have hcz8_0 : w7.cell? ⟨gb273, 0, none⟩ = some (.int .i64 a0_0) := (blk_cell BK273.out 0).trans rfl; have hcz8_1 : w7.cell? ⟨gb273, 1, none⟩ = some (.int .i64 a0_1) := (blk_cell BK273.out 1).trans rfl; have hcz8_2 : w7.cell? ⟨gb273, 2, none⟩ = some (.slice A0_2 l0_2.length c0_2) := (blk_cell BK273.out 2).trans rfl; have hfz8_0 := blk_frozen BK273.out 0; have hfz8_1 := blk_frozen BK273.out 1; have hfz8_2 := blk_frozen BK273.out 2))
      go_ret
      exact ⟨by first | rfl | (simp [errW_none, errW_some] <;> rfl) | (simp [*, errW_none, errW_some] <;> rfl), by repeat (first | (with_reducible first | exact HB.out | apply below_alloc | apply q5_ | apply below_drew1 | refine below_set ?_ GE273.out) | exact HB.out)⟩
    · rw [if_neg c5] at H; have c5b0 : decide (100 < (l0_2.length : Int)) = false := decide_eq_false c5; have c5b1 : decide (100 < l0_2.length) = false := decide_eq_false (by omega); clear c5; replace H := Option.bind_eq_some_iff.mp H; obtain ⟨⟨t275, t276, t277⟩, A90, H⟩ := H; replace H : ((codesearchref49_Ack.f k a0_0 a0_1 l0_2 a1).bind fun bt280 => ((codesearchref49_SameOut.f k t275 t276 t277 bt280.1 bt280.2.1 bt280.2.2).bind fun t285 => (if t285 = true then ((notify_Pending.f a0_0 a0_1 l0_2).bind fun t286 => ((codesearchref49_Letters.f k t286 l0_2).bind fun t289 => (some t289))) else (some false)))) = some r := H; have A9 := a5_ A90; clear A90; replace H := Option.bind_eq_some_iff.mp H; obtain ⟨⟨t280, t281, t282⟩, A100, H⟩ := H; replace H : ((codesearchref49_SameOut.f k t275 t276 t277 t280 t281 t282).bind fun t285 => (if t285 = true then ((notify_Pending.f a0_0 a0_1 l0_2).bind fun t286 => ((codesearchref49_Letters.f k t286 l0_2).bind fun t289 => (some t289))) else (some false))) = some r := H; have A10 := a5_ A100; clear A100; replace H := Option.bind_eq_some_iff.mp H; obtain ⟨t285, A110, H⟩ := H; replace H : (if t285 = true then ((notify_Pending.f a0_0 a0_1 l0_2).bind fun t286 => ((codesearchref49_Letters.f k t286 l0_2).bind fun t289 => (some t289))) else (some false)) = some r := H; have A11 := a5_ A110; clear A110
      by_cases c12 : t285 = true
      · subst c12; have H1 : ((notify_Pending.f a0_0 a0_1 l0_2).bind fun t286 => ((codesearchref49_Letters.f k t286 l0_2).bind fun t289 => (some t289))) = some r := by rw [if_pos rfl] at H; exact H
        clear H; have H := H1; clear H1; replace H := Option.bind_eq_some_iff.mp H; obtain ⟨t286, A130, H⟩ := H; replace H : ((codesearchref49_Letters.f k t286 l0_2).bind fun t289 => (some t289)) = some r := H; have A13 := a5_ A130; clear A130; replace H := Option.bind_eq_some_iff.mp H; obtain ⟨t289, A140, H⟩ := H; replace H : (some t289) = some r := H; have A14 := a5_ A140; clear A140; obtain rfl := Option.some.inj H
        go_enter Try.func5, Try.ntmps5
        try go_wp2_with (first | ((with_reducible refine gate_dst (N := 2) rfl ?_); refine box_event ?hg (N := 2) ?hd (cs := #[.int .i64 a0_0, .int .i64 a0_1, .slice A0_2 l0_2.length c0_2]) (t := 24) ?hr ?_; (case hd => rfl); (case hg => rfl); (case hr => first | (go_simp; done) | (go_simp; rfl)); intro gb273 hg w15 hbox hb; have BK273 := a5_ (hbox); have GW273 := a5_ ((by rw [hg]; exact (below_size z5_) : w.heap.size ≤ gb273)); have GE273 := a5_ ((by rw [hg]; exact (below_size z5_) : w.heap.size ≤ gb273)); replace HB := a5_ (below_step z5_ hb); clear hb hbox hg) | ((with_reducible refine gate_callee (f := 10) rfl ?_); refine goesL_ (some 5) rfl rfl Try.func10 (by kernel_rfl) rfl #[] rfl (by (try simp only [List.map_toArray, List.map_cons, List.map_nil]); first | done | rfl | (simp only [List.length_drop, List.length_take]; rfl)) ?_; (with_reducible refine (codesearchlaw49_alive.calls k  true _ A3.out).mono ?_); rintro e w16 ⟨rfl, hb⟩; refine ⟨_, rfl, ?_⟩; replace BK273 := a5_ (blk_below (k5_ BK273.out) hb); replace HB := a5_ (below_step z5_ hb); (try clear hb); (try clear hb2); (try clear hk); (try clear hi); have hcz17_0 : w16.cell? ⟨gb273, 0, none⟩ = some (.int .i64 a0_0) := (blk_cell BK273.out 0).trans rfl; have hcz17_1 : w16.cell? ⟨gb273, 1, none⟩ = some (.int .i64 a0_1) := (blk_cell BK273.out 1).trans rfl; have hcz17_2 : w16.cell? ⟨gb273, 2, none⟩ = some (.slice A0_2 l0_2.length c0_2) := (blk_cell BK273.out 2).trans rfl; have hfz17_0 := blk_frozen BK273.out 0; have hfz17_1 := blk_frozen BK273.out 1; have hfz17_2 := blk_frozen BK273.out 2))
        replace BK273 := a5_ (blk_drew BK273.out); replace HB := a5_ (below_drew1 HB.out); refine start_ (n := 15) (S := fun w' => w'.cell? ⟨gb273, 0, none⟩ = some (.int .i64 a0_0) ∧ w'.cell? ⟨gb273, 1, none⟩ = some (.int .i64 a0_1) ∧ w'.cell? ⟨gb273, 2, none⟩ = some (.slice A0_2 l0_2.length c0_2)) (ds := []) b5_0 (by kernel_rfl) rfl rfl ⟨(blk_cell BK273.out 0).trans rfl, (blk_cell BK273.out 1).trans rfl, (blk_cell BK273.out 2).trans rfl⟩ (fun hHeld => ?_); refine with_tabW codesearchlaw49_NotifyAcks.tab5 codesearchlaw49_NotifyAcks.bits5 (fun HT_ HW_ => ?_)
        generalize w16.drew = w18 at BK273 HB hHeld ⊢
        refine pure_ (i := 1) (N := some 12) (v := ?_) (a' := ?_) b5_1 rfl rfl (any_of HT_.out (by kernel_rfl)) (fun _ _ _ h => h) (Or.inl ⟨by rfl, ?_⟩) ?_ ?_; rotate_left
        · intro w'; go_simp
          with_reducible rfl
        rotate_left
        · simp only [Act.put, sT5_, sZ5_, sS5_, i64_w, i32_w]; rfl
        refine pure_ (i := 4) (N := some 15) (v := ?_) (a' := ?_) b5_2 rfl rfl (any_of HT_.out (by kernel_rfl)) (fun _ _ _ h => h) (Or.inl ⟨by rfl, ?_⟩) ?_ ?_; rotate_left
        · intro w'; go_simp
          with_reducible rfl
        rotate_left
        · simp only [Act.put, sT5_, sZ5_, sS5_, i64_w, i32_w]; rfl
        refine take_ (i := 0) (N := some 11) (v := ?_) (a' := ?_) b5_3 rfl rfl (take_ofW HT_.out HW_.out (by kernel_rfl)) (fun _ _ _ h => h) (Or.inl ⟨by rfl, ?_⟩) hHeld ?_ ?_; rotate_left
        · rintro w' ⟨s0, s1, s2⟩; go_simp
          with_reducible rfl
        rotate_left
        · simp only [Act.put, sT5_, sZ5_, sS5_, i64_w, i32_w]; rfl
        refine take_ (i := 3) (N := some 14) (v := ?_) (a' := ?_) b5_4 rfl rfl (take_ofW HT_.out HW_.out (by kernel_rfl)) (fun _ _ _ h => h) (Or.inl ⟨by rfl, ?_⟩) hHeld ?_ ?_; rotate_left
        · rintro w' ⟨s0, s1, s2⟩; go_simp
          with_reducible rfl
        rotate_left
        · simp only [Act.put, sT5_, sZ5_, sS5_, i64_w, i32_w]; rfl
        refine one_ (i := 2) (N := some 13) b5_5 rfl rfl (one_of HT_.out (by kernel_rfl)) (by decide) (fun K hK => ?_); refine goes_ Try.func18 (by kernel_rfl) rfl #[.agg #[.int .i64 a0_0, .int .i64 a0_1, .slice A0_2 l0_2.length c0_2], .int .i64 a1] (by rfl) rfl rfl (by (try simp only [List.map_toArray, List.map_cons, List.map_nil]); first | done | rfl | (simp only [List.length_drop, List.length_take]; rfl)) ?_
        with_reducible refine (notify_Ack.calls k a0_0 a0_1 _ _ l0_2 a1 t275 t276 t277 _ ?side1 ?side2 A9.out).mono ?_
        (case side1 => repeat (first | exact (Kd.C_below HR0_2.out HB.out) | (with_reducible refine Kd.C_alloc ?_ _) | (with_reducible refine Kd.C_drewN ?_ _) | (with_reducible refine Kd.C_drew ?_)))
        (case side2 => exact HC0_2.out)
        rintro e w19 ⟨v278, rfl, ho0, hb⟩; refine ⟨_, rfl, ?_⟩; have HO279 := a5_ (Kd.R_lower ho0 (below_size z5_)); replace BK273 := a5_ (blk_below (k5_ BK273.out) hb); replace HB := a5_ (below_step z5_ hb)
        (try clear hb)
        (try clear hb2)
        (try clear hk)
        (try clear hi)
        (try clear ho0)
        refine hK.out _ _ ⟨(blk_cell BK273.out 0).trans rfl, (blk_cell BK273.out 1).trans rfl, (blk_cell BK273.out 2).trans rfl⟩ (fun hHeld => ?_); clear hK K; refine norm_ (a' := ?_) ?_ ?_; rotate_left
        · show Act.put _ (some 13) _ = _
          simp only [Act.put, sT5_, sZ5_, sS5_, i64_w, i32_w]; rfl
        refine one_ (i := 5) (N := some 16) b5_6 rfl rfl (one_of HT_.out (by kernel_rfl)) (by decide) (fun K hK => ?_); refine goes_ Try.func19 (by kernel_rfl) rfl #[.agg #[.int .i64 a0_0, .int .i64 a0_1, .slice A0_2 l0_2.length c0_2], .int .i64 a1] (by rfl) rfl rfl (by (try simp only [List.map_toArray, List.map_cons, List.map_nil]); first | done | rfl | (simp only [List.length_drop, List.length_take]; rfl)) ?_
        with_reducible refine (codesearchref49_Ack.calls k a0_0 a0_1 _ _ l0_2 a1 t280 t281 t282 _ ?side1 ?side2 A10.out).mono ?_
        (case side1 => repeat (first | exact (Kd.C_below HR0_2.out HB.out) | (with_reducible refine Kd.C_alloc ?_ _) | (with_reducible refine Kd.C_drewN ?_ _) | (with_reducible refine Kd.C_drew ?_)))
        (case side2 => exact HC0_2.out)
        rintro e w20 ⟨v283, rfl, ho0, hb⟩; refine ⟨_, rfl, ?_⟩; have HO284 := a5_ (Kd.R_lower (Kd.R_new' ho0 (Kd.R_lt (r5_ HO279.out))) (below_size z5_)); replace HO279 := a5_ (Kd.R_elder' (r5_ HO279.out) (Kd.R_base ho0) hb); replace BK273 := a5_ (blk_below (k5_ BK273.out) hb); replace HB := a5_ (below_step z5_ hb)
        (try clear hb)
        (try clear hb2)
        (try clear hk)
        (try clear hi)
        (try clear ho0)
        obtain ⟨Ao21, co21, eo21⟩ := Kd.R_slice HO279.out
        (first | subst eo21 | (injection eo21 with f1_ f2_ f3_; have f4_ := f1_.symm; have f5_ := f3_.symm; clear f1_ f2_ f3_; subst f4_; subst f5_))
        obtain ⟨Ao22, co22, eo22⟩ := Kd.R_slice HO284.out
        (first | subst eo22 | (injection eo22 with f1_ f2_ f3_; have f4_ := f1_.symm; have f5_ := f3_.symm; clear f1_ f2_ f3_; subst f4_; subst f5_))
        refine hK.out _ _ ⟨(blk_cell BK273.out 0).trans rfl, (blk_cell BK273.out 1).trans rfl, (blk_cell BK273.out 2).trans rfl⟩ (fun hHeld => ?_); clear hK K; refine norm_ (a' := ?_) ?_ ?_; rotate_left
        · show Act.put _ (some 16) _ = _
          simp only [Act.put, sT5_, sZ5_, sS5_, i64_w, i32_w]; rfl
        refine one_ (i := 6) (N := some 17) b5_7 rfl rfl (one_of HT_.out (by kernel_rfl)) (by decide) (fun K hK => ?_); refine goes_ Try.func13 (by kernel_rfl) rfl #[.agg #[.int .i64 t275, .int .i64 t276, .slice Ao21 t277.length co21], .agg #[.int .i64 t280, .int .i64 t281, .slice Ao22 t282.length co22]] (by rfl) rfl rfl (by (try simp only [List.map_toArray, List.map_cons, List.map_nil]); first | done | rfl | (simp only [List.length_drop, List.length_take]; rfl)) ?_
        with_reducible refine (codesearchref49_SameOut.calls k t275 t276 _ _ t277 t280 t281 _ _ t282 true _ ?side1 ?side2 ?side3 ?side4 A11.out).mono ?_
        (case side1 => repeat (first | exact (Kd.R_reads' HO279.out).2.2 | (with_reducible refine Kd.C_alloc ?_ _) | (with_reducible refine Kd.C_drewN ?_ _) | (with_reducible refine Kd.C_drew ?_)))
        (case side2 => exact (Kd.R_reads' HO279.out).2.1)
        (case side3 => repeat (first | exact (Kd.R_reads' HO284.out).2.2 | (with_reducible refine Kd.C_alloc ?_ _) | (with_reducible refine Kd.C_drewN ?_ _) | (with_reducible refine Kd.C_drew ?_)))
        (case side4 => exact (Kd.R_reads' HO284.out).2.1)
        rintro e w23 ⟨rfl, hb⟩; refine ⟨_, rfl, ?_⟩; replace HO279 := a5_ (Kd.R_below (r5_ HO279.out) hb); replace HO284 := a5_ (Kd.R_below (r5_ HO284.out) hb); replace BK273 := a5_ (blk_below (k5_ BK273.out) hb); replace HB := a5_ (below_step z5_ hb)
        (try clear hb)
        (try clear hb2)
        (try clear hk)
        (try clear hi)
        refine hK.out _ _ ⟨(blk_cell BK273.out 0).trans rfl, (blk_cell BK273.out 1).trans rfl, (blk_cell BK273.out 2).trans rfl⟩ (fun hHeld => ?_); clear hK K; refine norm_ (a' := ?_) ?_ ?_; rotate_left
        · show Act.put _ (some 17) _ = _
          simp only [Act.put, sT5_, sZ5_, sS5_, i64_w, i32_w]; rfl
        refine pure_ (i := 7) (N := some 18) (v := ?_) (a' := ?_) b5_8 rfl rfl (any_of HT_.out (by kernel_rfl)) (fun _ _ _ h => h) (Or.inl ⟨by rfl, ?_⟩) ?_ ?_; rotate_left
        · intro w'; go_simp
          with_reducible rfl
        rotate_left
        · simp only [Act.put, sT5_, sZ5_, sS5_, i64_w, i32_w]; rfl
        refine pure_ (i := 10) (N := some 21) (v := ?_) (a' := ?_) #[true, true, true, true, true, true, true, true, false, false, true, false, false, false, false] rfl rfl (any_of HT_.out (by kernel_rfl)) (fun _ _ _ h => h) (Or.inl ⟨by rfl, ?_⟩) ?_ ?_; rotate_left
        · intro w'; go_simp
          with_reducible rfl
        rotate_left
        · simp only [Act.put, sT5_, sZ5_, sS5_, i64_w, i32_w]; rfl
        refine take_ (i := 8) (N := some 19) (v := ?_) (a' := ?_) #[true, true, true, true, true, true, true, true, true, false, true, false, false, false, false] rfl rfl (take_ofW HT_.out HW_.out (by kernel_rfl)) (fun _ _ _ h => h) (Or.inl ⟨by rfl, ?_⟩) hHeld ?_ ?_; rotate_left
        · rintro w' ⟨s0, s1, s2⟩; go_simp
          with_reducible rfl
        rotate_left
        · simp only [Act.put, sT5_, sZ5_, sS5_, i64_w, i32_w]; rfl
        refine take_ (i := 11) (N := some 22) (v := ?_) (a' := ?_) #[true, true, true, true, true, true, true, true, true, false, true, true, false, false, false] rfl rfl (take_ofW HT_.out HW_.out (by kernel_rfl)) (fun _ _ _ h => h) (Or.inl ⟨by rfl, ?_⟩) hHeld ?_ ?_; rotate_left
        · rintro w' ⟨s0, s1, s2⟩; go_simp
          with_reducible rfl
        rotate_left
        · simp only [Act.put, sT5_, sZ5_, sS5_, i64_w, i32_w]; rfl
        refine one_ (i := 9) (N := some 20) b5_9 rfl rfl (one_of HT_.out (by kernel_rfl)) (by decide) (fun K hK => ?_); refine goes_ Try.func20 (by kernel_rfl) rfl #[.agg #[.int .i64 a0_0, .int .i64 a0_1, .slice A0_2 l0_2.length c0_2]] (by rfl) rfl rfl (by (try simp only [List.map_toArray, List.map_cons, List.map_nil]); first | done | rfl | (simp only [List.length_drop, List.length_take]; rfl)) ?_
        with_reducible refine (notify_Pending.calls a0_0 a0_1 _ _ l0_2 t286 _ ?side1 ?side2 A13.out).mono ?_
        (case side1 => repeat (first | exact (Kd.C_below HR0_2.out HB.out) | (with_reducible refine Kd.C_alloc ?_ _) | (with_reducible refine Kd.C_drewN ?_ _) | (with_reducible refine Kd.C_drew ?_)))
        (case side2 => exact HC0_2.out)
        rintro e w24 ⟨v287, rfl, ho0, hb⟩; refine ⟨_, rfl, ?_⟩; have HO288 := a5_ (Kd.R_lower (Kd.R_new' (Kd.R_new' ho0 (Kd.R_lt (r5_ HO279.out))) (Kd.R_lt (r5_ HO284.out))) (below_size z5_)); replace HO279 := a5_ (Kd.R_elder' (r5_ HO279.out) (Kd.R_base ho0) hb); replace HO284 := a5_ (Kd.R_elder' (r5_ HO284.out) (Kd.R_base ho0) hb); replace BK273 := a5_ (blk_below (k5_ BK273.out) hb); replace HB := a5_ (below_step z5_ hb)
        (try clear hb)
        (try clear hb2)
        (try clear hk)
        (try clear hi)
        (try clear ho0)
        obtain ⟨Ao25, co25, eo25⟩ := Kd.R_slice HO288.out
        (first | subst eo25 | (injection eo25 with f1_ f2_ f3_; have f4_ := f1_.symm; have f5_ := f3_.symm; clear f1_ f2_ f3_; subst f4_; subst f5_))
        refine hK.out _ _ ⟨(blk_cell BK273.out 0).trans rfl, (blk_cell BK273.out 1).trans rfl, (blk_cell BK273.out 2).trans rfl⟩ (fun hHeld => ?_); clear hK K; refine norm_ (a' := ?_) ?_ ?_; rotate_left
        · show Act.put _ (some 20) _ = _
          simp only [Act.put, sT5_, sZ5_, sS5_, i64_w, i32_w]; rfl
        refine one_ (i := 12) (N := some 23) b5_10 rfl rfl (one_of HT_.out (by kernel_rfl)) (by decide) (fun K hK => ?_); refine goes_ Try.func14 (by kernel_rfl) rfl #[.slice Ao25 t286.length co25, .slice A0_2 l0_2.length c0_2] (by rfl) rfl rfl (by (try simp only [List.map_toArray, List.map_cons, List.map_nil]); first | done | rfl | (simp only [List.length_drop, List.length_take]; rfl)) ?_
        with_reducible refine (codesearchref49_Letters.calls k _ _ t286 _ _ l0_2 t289 _ ?side1 ?side2 ?side3 ?side4 A14.out).mono ?_
        (case side1 => repeat (first | exact (Kd.R_reads' HO288.out).2.2 | (with_reducible refine Kd.C_alloc ?_ _) | (with_reducible refine Kd.C_drewN ?_ _) | (with_reducible refine Kd.C_drew ?_)))
        (case side2 => exact (Kd.R_reads' HO288.out).2.1)
        (case side3 => repeat (first | exact (Kd.C_below HR0_2.out HB.out) | (with_reducible refine Kd.C_alloc ?_ _) | (with_reducible refine Kd.C_drewN ?_ _) | (with_reducible refine Kd.C_drew ?_)))
        (case side4 => exact HC0_2.out)
        rintro e w' ⟨rfl, ⟨nd, rfl⟩⟩; refine ⟨_, rfl, ?_⟩; refine hK.out _ _ ⟨(blk_cell BK273.out 0).trans rfl, (blk_cell BK273.out 1).trans rfl, (blk_cell BK273.out 2).trans rfl⟩ (fun hHeld => ?_); clear hK K; refine norm_ (a' := ?_) ?_ ?_; rotate_left
        · show Act.put _ (some 23) _ = _
          simp only [Act.put, sT5_, sZ5_, sS5_, i64_w, i32_w]; rfl
        refine pure_ (i := 13) (N := some 24) (v := ?_) (a' := ?_) b5_11 rfl rfl (any_of HT_.out (by kernel_rfl)) (fun _ _ _ h => h) (Or.inl ⟨by rfl, ?_⟩) ?_ ?_; rotate_left
        · intro w'; go_simp
          with_reducible rfl
        rotate_left
        · simp only [Act.put, sT5_, sZ5_, sS5_, i64_w, i32_w]; rfl
        refine pure_ (i := 14) (N := some 4) (v := ?_) (a' := ?_) b5_12 rfl rfl (any_of HT_.out (by kernel_rfl)) (fun _ _ _ h => h) (Or.inl ⟨by rfl, ?_⟩) ?_ ?_; rotate_left
        · intro w'; go_simp
          with_reducible rfl
        rotate_left
        · simp only [Act.put, sT5_, sZ5_, sS5_, i64_w, i32_w]; rfl
        refine done_ (done_of HT_.out (by kernel_rfl)) ?_
        try go_wp2
        go_ret
        exact ⟨by first | rfl | (simp [errW_none, errW_some] <;> rfl) | (simp [*, errW_none, errW_some] <;> rfl), by repeat (first | (with_reducible first | exact HB.out | apply below_alloc | apply q5_ | apply below_drew1 | refine below_set ?_ GE273.out) | exact HB.out)⟩
      · replace c12 := Bool.eq_false_iff.mpr c12; subst c12; have H1 : (some false) = some r := by rw [if_neg (show ¬ (false = true) by decide)] at H; exact H
        clear H; have H := H1; clear H1; obtain rfl := Option.some.inj H
        go_enter Try.func5, Try.ntmps5
        try go_wp2_with (first | ((with_reducible refine gate_dst (N := 2) rfl ?_); refine box_event ?hg (N := 2) ?hd (cs := #[.int .i64 a0_0, .int .i64 a0_1, .slice A0_2 l0_2.length c0_2]) (t := 24) ?hr ?_; (case hd => rfl); (case hg => rfl); (case hr => first | (go_simp; done) | (go_simp; rfl)); intro gb273 hg w26 hbox hb; have BK273 := a5_ (hbox); have GW273 := a5_ ((by rw [hg]; exact (below_size z5_) : w.heap.size ≤ gb273)); have GE273 := a5_ ((by rw [hg]; exact (below_size z5_) : w.heap.size ≤ gb273)); replace HB := a5_ (below_step z5_ hb); clear hb hbox hg) | ((with_reducible refine gate_callee (f := 10) rfl ?_); refine goesL_ (some 5) rfl rfl Try.func10 (by kernel_rfl) rfl #[] rfl (by (try simp only [List.map_toArray, List.map_cons, List.map_nil]); first | done | rfl | (simp only [List.length_drop, List.length_take]; rfl)) ?_; (with_reducible refine (codesearchlaw49_alive.calls k  true _ A3.out).mono ?_); rintro e w27 ⟨rfl, hb⟩; refine ⟨_, rfl, ?_⟩; replace BK273 := a5_ (blk_below (k5_ BK273.out) hb); replace HB := a5_ (below_step z5_ hb); (try clear hb); (try clear hb2); (try clear hk); (try clear hi); have hcz28_0 : w27.cell? ⟨gb273, 0, none⟩ = some (.int .i64 a0_0) := (blk_cell BK273.out 0).trans rfl; have hcz28_1 : w27.cell? ⟨gb273, 1, none⟩ = some (.int .i64 a0_1) := (blk_cell BK273.out 1).trans rfl; have hcz28_2 : w27.cell? ⟨gb273, 2, none⟩ = some (.slice A0_2 l0_2.length c0_2) := (blk_cell BK273.out 2).trans rfl; have hfz28_0 := blk_frozen BK273.out 0; have hfz28_1 := blk_frozen BK273.out 1; have hfz28_2 := blk_frozen BK273.out 2))
        replace BK273 := a5_ (blk_drew BK273.out); replace HB := a5_ (below_drew1 HB.out); refine start_ (n := 15) (S := fun w' => w'.cell? ⟨gb273, 0, none⟩ = some (.int .i64 a0_0) ∧ w'.cell? ⟨gb273, 1, none⟩ = some (.int .i64 a0_1) ∧ w'.cell? ⟨gb273, 2, none⟩ = some (.slice A0_2 l0_2.length c0_2)) (ds := []) b5_0 (by kernel_rfl) rfl rfl ⟨(blk_cell BK273.out 0).trans rfl, (blk_cell BK273.out 1).trans rfl, (blk_cell BK273.out 2).trans rfl⟩ (fun hHeld => ?_); refine with_tabW codesearchlaw49_NotifyAcks.tab5 codesearchlaw49_NotifyAcks.bits5 (fun HT_ HW_ => ?_)
        generalize w27.drew = w29 at BK273 HB hHeld ⊢
        refine pure_ (i := 1) (N := some 12) (v := ?_) (a' := ?_) b5_1 rfl rfl (any_of HT_.out (by kernel_rfl)) (fun _ _ _ h => h) (Or.inl ⟨by rfl, ?_⟩) ?_ ?_; rotate_left
        · intro w'; go_simp
          with_reducible rfl
        rotate_left
        · simp only [Act.put, sT5_, sZ5_, sS5_, i64_w, i32_w]; rfl
        refine pure_ (i := 4) (N := some 15) (v := ?_) (a' := ?_) b5_2 rfl rfl (any_of HT_.out (by kernel_rfl)) (fun _ _ _ h => h) (Or.inl ⟨by rfl, ?_⟩) ?_ ?_; rotate_left
        · intro w'; go_simp
          with_reducible rfl
        rotate_left
        · simp only [Act.put, sT5_, sZ5_, sS5_, i64_w, i32_w]; rfl
        refine take_ (i := 0) (N := some 11) (v := ?_) (a' := ?_) b5_3 rfl rfl (take_ofW HT_.out HW_.out (by kernel_rfl)) (fun _ _ _ h => h) (Or.inl ⟨by rfl, ?_⟩) hHeld ?_ ?_; rotate_left
        · rintro w' ⟨s0, s1, s2⟩; go_simp
          with_reducible rfl
        rotate_left
        · simp only [Act.put, sT5_, sZ5_, sS5_, i64_w, i32_w]; rfl
        refine take_ (i := 3) (N := some 14) (v := ?_) (a' := ?_) b5_4 rfl rfl (take_ofW HT_.out HW_.out (by kernel_rfl)) (fun _ _ _ h => h) (Or.inl ⟨by rfl, ?_⟩) hHeld ?_ ?_; rotate_left
        · rintro w' ⟨s0, s1, s2⟩; go_simp
          with_reducible rfl
        rotate_left
        · simp only [Act.put, sT5_, sZ5_, sS5_, i64_w, i32_w]; rfl
        refine one_ (i := 2) (N := some 13) b5_5 rfl rfl (one_of HT_.out (by kernel_rfl)) (by decide) (fun K hK => ?_); refine goes_ Try.func18 (by kernel_rfl) rfl #[.agg #[.int .i64 a0_0, .int .i64 a0_1, .slice A0_2 l0_2.length c0_2], .int .i64 a1] (by rfl) rfl rfl (by (try simp only [List.map_toArray, List.map_cons, List.map_nil]); first | done | rfl | (simp only [List.length_drop, List.length_take]; rfl)) ?_
        with_reducible refine (notify_Ack.calls k a0_0 a0_1 _ _ l0_2 a1 t275 t276 t277 _ ?side1 ?side2 A9.out).mono ?_
        (case side1 => repeat (first | exact (Kd.C_below HR0_2.out HB.out) | (with_reducible refine Kd.C_alloc ?_ _) | (with_reducible refine Kd.C_drewN ?_ _) | (with_reducible refine Kd.C_drew ?_)))
        (case side2 => exact HC0_2.out)
        rintro e w30 ⟨v278, rfl, ho0, hb⟩; refine ⟨_, rfl, ?_⟩; have HO279 := a5_ (Kd.R_lower ho0 (below_size z5_)); replace BK273 := a5_ (blk_below (k5_ BK273.out) hb); replace HB := a5_ (below_step z5_ hb)
        (try clear hb)
        (try clear hb2)
        (try clear hk)
        (try clear hi)
        (try clear ho0)
        refine hK.out _ _ ⟨(blk_cell BK273.out 0).trans rfl, (blk_cell BK273.out 1).trans rfl, (blk_cell BK273.out 2).trans rfl⟩ (fun hHeld => ?_); clear hK K; refine norm_ (a' := ?_) ?_ ?_; rotate_left
        · show Act.put _ (some 13) _ = _
          simp only [Act.put, sT5_, sZ5_, sS5_, i64_w, i32_w]; rfl
        refine one_ (i := 5) (N := some 16) b5_6 rfl rfl (one_of HT_.out (by kernel_rfl)) (by decide) (fun K hK => ?_); refine goes_ Try.func19 (by kernel_rfl) rfl #[.agg #[.int .i64 a0_0, .int .i64 a0_1, .slice A0_2 l0_2.length c0_2], .int .i64 a1] (by rfl) rfl rfl (by (try simp only [List.map_toArray, List.map_cons, List.map_nil]); first | done | rfl | (simp only [List.length_drop, List.length_take]; rfl)) ?_
        with_reducible refine (codesearchref49_Ack.calls k a0_0 a0_1 _ _ l0_2 a1 t280 t281 t282 _ ?side1 ?side2 A10.out).mono ?_
        (case side1 => repeat (first | exact (Kd.C_below HR0_2.out HB.out) | (with_reducible refine Kd.C_alloc ?_ _) | (with_reducible refine Kd.C_drewN ?_ _) | (with_reducible refine Kd.C_drew ?_)))
        (case side2 => exact HC0_2.out)
        rintro e w31 ⟨v283, rfl, ho0, hb⟩; refine ⟨_, rfl, ?_⟩; have HO284 := a5_ (Kd.R_lower (Kd.R_new' ho0 (Kd.R_lt (r5_ HO279.out))) (below_size z5_)); replace HO279 := a5_ (Kd.R_elder' (r5_ HO279.out) (Kd.R_base ho0) hb); replace BK273 := a5_ (blk_below (k5_ BK273.out) hb); replace HB := a5_ (below_step z5_ hb)
        (try clear hb)
        (try clear hb2)
        (try clear hk)
        (try clear hi)
        (try clear ho0)
        obtain ⟨Ao32, co32, eo32⟩ := Kd.R_slice HO279.out
        (first | subst eo32 | (injection eo32 with f1_ f2_ f3_; have f4_ := f1_.symm; have f5_ := f3_.symm; clear f1_ f2_ f3_; subst f4_; subst f5_))
        obtain ⟨Ao33, co33, eo33⟩ := Kd.R_slice HO284.out
        (first | subst eo33 | (injection eo33 with f1_ f2_ f3_; have f4_ := f1_.symm; have f5_ := f3_.symm; clear f1_ f2_ f3_; subst f4_; subst f5_))
        refine hK.out _ _ ⟨(blk_cell BK273.out 0).trans rfl, (blk_cell BK273.out 1).trans rfl, (blk_cell BK273.out 2).trans rfl⟩ (fun hHeld => ?_); clear hK K; refine norm_ (a' := ?_) ?_ ?_; rotate_left
        · show Act.put _ (some 16) _ = _
          simp only [Act.put, sT5_, sZ5_, sS5_, i64_w, i32_w]; rfl
        refine one_ (i := 6) (N := some 17) b5_7 rfl rfl (one_of HT_.out (by kernel_rfl)) (by decide) (fun K hK => ?_); refine goes_ Try.func13 (by kernel_rfl) rfl #[.agg #[.int .i64 t275, .int .i64 t276, .slice Ao32 t277.length co32], .agg #[.int .i64 t280, .int .i64 t281, .slice Ao33 t282.length co33]] (by rfl) rfl rfl (by (try simp only [List.map_toArray, List.map_cons, List.map_nil]); first | done | rfl | (simp only [List.length_drop, List.length_take]; rfl)) ?_
        with_reducible refine (codesearchref49_SameOut.calls k t275 t276 _ _ t277 t280 t281 _ _ t282 false _ ?side1 ?side2 ?side3 ?side4 A11.out).mono ?_
        (case side1 => repeat (first | exact (Kd.R_reads' HO279.out).2.2 | (with_reducible refine Kd.C_alloc ?_ _) | (with_reducible refine Kd.C_drewN ?_ _) | (with_reducible refine Kd.C_drew ?_)))
        (case side2 => exact (Kd.R_reads' HO279.out).2.1)
        (case side3 => repeat (first | exact (Kd.R_reads' HO284.out).2.2 | (with_reducible refine Kd.C_alloc ?_ _) | (with_reducible refine Kd.C_drewN ?_ _) | (with_reducible refine Kd.C_drew ?_)))
        (case side4 => exact (Kd.R_reads' HO284.out).2.1)
        rintro e w34 ⟨rfl, hb⟩; refine ⟨_, rfl, ?_⟩; replace HO279 := a5_ (Kd.R_below (r5_ HO279.out) hb); replace HO284 := a5_ (Kd.R_below (r5_ HO284.out) hb); replace BK273 := a5_ (blk_below (k5_ BK273.out) hb); replace HB := a5_ (below_step z5_ hb)
        (try clear hb)
        (try clear hb2)
        (try clear hk)
        (try clear hi)
        refine hK.out _ _ ⟨(blk_cell BK273.out 0).trans rfl, (blk_cell BK273.out 1).trans rfl, (blk_cell BK273.out 2).trans rfl⟩ (fun hHeld => ?_); clear hK K; refine norm_ (a' := ?_) ?_ ?_; rotate_left
        · show Act.put _ (some 17) _ = _
          simp only [Act.put, sT5_, sZ5_, sS5_, i64_w, i32_w]; rfl
        refine pure_ (i := 7) (N := some 18) (v := ?_) (a' := ?_) b5_8 rfl rfl (any_of HT_.out (by kernel_rfl)) (fun _ _ _ h => h) (Or.inl ⟨by rfl, ?_⟩) ?_ ?_; rotate_left
        · intro w'; go_simp
          with_reducible rfl
        rotate_left
        · simp only [Act.put, sT5_, sZ5_, sS5_, i64_w, i32_w]; rfl
        refine pure_ (i := 8) (N := some 19) (v := undef) (a' := ?_) #[true, true, true, true, true, true, true, true, true, false, false, false, false, false, false] rfl rfl (any_of HT_.out (by kernel_rfl)) (fun _ _ _ h => h) (Or.inr ⟨by rfl, rfl⟩) ?_ ?_; rotate_left
        · simp only [Act.put, sT5_, sZ5_, sS5_, i64_w, i32_w]; rfl
        refine pure_ (i := 9) (N := some 20) (v := undef) (a' := ?_) #[true, true, true, true, true, true, true, true, true, true, false, false, false, false, false] rfl rfl (any_of HT_.out (by kernel_rfl)) (fun _ _ _ h => h) (Or.inr ⟨by rfl, rfl⟩) ?_ ?_; rotate_left
        · simp only [Act.put, sT5_, sZ5_, sS5_, i64_w, i32_w]; rfl
        refine pure_ (i := 10) (N := some 21) (v := undef) (a' := ?_) #[true, true, true, true, true, true, true, true, true, true, true, false, false, false, false] rfl rfl (any_of HT_.out (by kernel_rfl)) (fun _ _ _ h => h) (Or.inr ⟨by rfl, rfl⟩) ?_ ?_; rotate_left
        · simp only [Act.put, sT5_, sZ5_, sS5_, i64_w, i32_w]; rfl
        refine pure_ (i := 11) (N := some 22) (v := undef) (a' := ?_) b5_9 rfl rfl (any_of HT_.out (by kernel_rfl)) (fun _ _ _ h => h) (Or.inr ⟨by rfl, rfl⟩) ?_ ?_; rotate_left
        · simp only [Act.put, sT5_, sZ5_, sS5_, i64_w, i32_w]; rfl
        refine pure_ (i := 12) (N := some 23) (v := undef) (a' := ?_) b5_10 rfl rfl (any_of HT_.out (by kernel_rfl)) (fun _ _ _ h => h) (Or.inr ⟨by rfl, rfl⟩) ?_ ?_; rotate_left
        · simp only [Act.put, sT5_, sZ5_, sS5_, i64_w, i32_w]; rfl
        refine pure_ (i := 13) (N := some 24) (v := ?_) (a' := ?_) b5_11 rfl rfl (any_of HT_.out (by kernel_rfl)) (fun _ _ _ h => h) (Or.inl ⟨by rfl, ?_⟩) ?_ ?_; rotate_left
        · intro w'; go_simp
          with_reducible rfl
        rotate_left
        · simp only [Act.put, sT5_, sZ5_, sS5_, i64_w, i32_w]; rfl
        refine pure_ (i := 14) (N := some 4) (v := ?_) (a' := ?_) b5_12 rfl rfl (any_of HT_.out (by kernel_rfl)) (fun _ _ _ h => h) (Or.inl ⟨by rfl, ?_⟩) ?_ ?_; rotate_left
        · intro w'; go_simp
          with_reducible rfl
        rotate_left
        · simp only [Act.put, sT5_, sZ5_, sS5_, i64_w, i32_w]; rfl
        refine done_ (done_of HT_.out (by kernel_rfl)) ?_
        try go_wp2
        go_ret
        exact ⟨by first | rfl | (simp [errW_none, errW_some] <;> rfl) | (simp [*, errW_none, errW_some] <;> rfl), by repeat (first | (with_reducible first | exact HB.out | apply below_alloc | apply q5_ | apply below_drew1 | refine below_set ?_ GE273.out) | exact HB.out)⟩
  · replace c4 := Bool.eq_false_iff.mpr c4; subst c4; have H1 : (some false) = some r := by rw [if_neg (show ¬ (false = true) by decide)] at H; exact H
    clear H; have H := H1; clear H1; obtain rfl := Option.some.inj H
    go_enter Try.func5, Try.ntmps5
    go_wp2_with (first | ((with_reducible refine gate_dst (N := 2) rfl ?_); refine box_event ?hg (N := 2) ?hd (cs := #[.int .i64 a0_0, .int .i64 a0_1, .slice A0_2 l0_2.length c0_2]) (t := 24) ?hr ?_; (case hd => rfl); (case hg => rfl); (case hr => first | (go_simp; done) | (go_simp; rfl)); intro gb273 hg w35 hbox hb; have BK273 := a5_ (hbox); have GW273 := a5_ ((by rw [hg]; exact (below_size z5_) : w.heap.size ≤ gb273)); have GE273 := a5_ ((by rw [hg]; exact (below_size z5_) : w.heap.size ≤ gb273)); replace HB := a5_ (below_step z5_ hb); clear hb hbox hg) | ((with_reducible refine gate_callee (f := 10) rfl ?_); refine goesL_ (some 5) rfl rfl Try.func10 (by kernel_rfl) rfl #[] rfl (by (try simp only [List.map_toArray, List.map_cons, List.map_nil]); first | done | rfl | (simp only [List.length_drop, List.length_take]; rfl)) ?_; (with_reducible refine (codesearchlaw49_alive.calls k  false _ A3.out).mono ?_); rintro e w36 ⟨rfl, hb⟩; refine ⟨_, rfl, ?_⟩; replace BK273 := a5_ (blk_below (k5_ BK273.out) hb); replace HB := a5_ (below_step z5_ hb); (try clear hb); (try clear hb2); (try clear hk); (try clear hi)))
    go_ret
    exact ⟨by first | rfl | (simp [errW_none, errW_some] <;> rfl) | (simp [*, errW_none, errW_some] <;> rfl), by repeat (first | (with_reducible first | exact HB.out | apply below_alloc | apply q5_ | apply below_drew1 | refine below_set ?_ GE273.out) | exact HB.out)⟩

end Go.Proofs.Ytcoidmhdkhpalaa.PAll
