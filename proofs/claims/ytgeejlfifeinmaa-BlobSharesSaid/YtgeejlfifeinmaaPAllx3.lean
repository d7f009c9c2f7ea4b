-- Written by this session's program hprint.py over the kit's print. Not trusted: Lean checks it.
import Derived.Test.YtgeejlfifeinmaaPAllx0
import Derived.Test.YtgeejlfifeinmaaPAllx2
import Derived.Test.YtgeejlfifeinmaaBlobMap
import Derived.Lib.Hide
import Derived.Outline
namespace Go.Proofs.Ytgeejlfifeinmaa.PAll
open Go.RowKit Go.Proofs.YtgeejlfifeinmaaW.PrintWords Go.Proofs.YtgeejlfifeinmaaW.PrintLast Go.Proofs.YtgeejlfifeinmaaW.PrintMore
attribute [local go_sem] max2_int min2_int max_two min_two max_three min_three max_four min_four   -- for this text's walks alone
set_option linter.unusedVariables false
set_option linter.unusedSimpArgs false

--HAND blob_right.tpl
--HANDIMPORT Derived.Test.YtgeejlfifeinmaaBlobMap
--HANDIMPORT Derived.Lib.Hide
--HANDIMPORT Derived.Outline

/-! ### blob_Right: function 12 -/
def bFitsB (l : List S39) : Bool := decide (l.length ≤ 5864062014806) && l.all (fun b => (Lit.int .i64 b.f0).wf && decide (b.f1.size ≤ maxLen))
theorem bFitsB_iff {l : List S39} (h : bFitsB l = true) : l.length ≤ 5864062014806 ∧ BFits l := by
  unfold bFitsB at h
  rw [Bool.and_eq_true, decide_eq_true_eq, List.all_eq_true] at h
  refine ⟨h.1, fun b hb => ?_⟩
  have := h.2 b hb
  rw [Bool.and_eq_true, decide_eq_true_eq] at this
  exact this
/-- the IDs rise, and lie below next -/
def rtIds (next : Int) : Int → List S39 → Bool
  | _, [] => true
  | last, b :: r => if b.f0 ≤ last then false else if next ≤ b.f0 then false else rtIds next b.f0 r
def rtValid (k : Nat) : List S39 → Option Bool
  | [] => some true
  | b :: r => (text_Valid.f k b.f1).bind fun t => if t = true then rtValid k r else some false
def blob_Right.f (k : Nat) (a0_0 : Int) (l : List S39) : Option Int :=
  if bFitsB l = true then
    if a0_0 < 1 then some 2 else if a0_0 > 10000 then some 2
    else if rtIds a0_0 0 l = true then
      if l.length > 128 then some 4 else (rtValid k l).bind fun t => if t = true then (if btCount l < l.length then some 7 else some 0) else some 3
    else some 2
  else none
theorem rtValid_mono : ∀ (l : List S39) (k : Nat), LeO (rtValid k l) (rtValid (k + 1) l)
  | [], k => LeO.refl _
  | b :: r, k => LeO.bind (text_Valid.mono _ _) (fun _ => LeO.ite (rtValid_mono r k) (LeO.refl _))
theorem blob_Right.mono : ∀ a0 a1 k, LeO (blob_Right.f k a0 a1) (blob_Right.f (k + 1) a0 a1) := by
  intro a0 a1 k
  unfold blob_Right.f
  refine LeO.ite (LeO.ite (LeO.refl _) (LeO.ite (LeO.refl _) (LeO.ite (LeO.ite (LeO.refl _) (LeO.bind (rtValid_mono _ _) (fun _ => LeO.refl _))) (LeO.refl _)))) (LeO.refl _)
theorem drop_rd (l : List S39) (y : Int) (n : Nat) (hy : y = n) (hn : n < l.length) : l.drop n = rd_T39 l y :: l.drop (n + 1) := by
  subst hy
  rw [List.drop_eq_getElem_cons hn]
  unfold rd_T39
  rw [Int.toNat_natCast, List.getD_eq_getElem?_getD, List.getElem?_eq_getElem hn]
  rfl
/-- what is known in the loops -/
def RtI (w : World) (nx : Int) (A : Option Addr) (c n : Nat) (W : World) : Prop := W.heap[w.heap.size]? = some (.cells #[.int .i64 nx, .slice A n c] 24 (0, 0)) ∧ Below w.heap.size w W
set_option maxRecDepth 100000 in
set_option maxHeartbeats 8000000 in
theorem blob_Right.calls (k : Nat) (a0_0 : Int) (A0_1 : Option Addr) (c0_1 : Nat) (l0_1 : List (S39)) (r : Int) (w : World) (hr0_1 : Kd.C k39 w A0_1 l0_1.length l0_1) (hc0_1 : l0_1.length ≤ c0_1) (h : blob_Right.f k a0_0 l0_1 = some r) :
    Calls Try.prog 12 #[.agg #[.int .i64 a0_0, .slice A0_1 l0_1.length c0_1]] w fun e w' => e = .returned (.int .i64 r) ∧ Below w.heap.size w w' := by
  unfold blob_Right.f at h
  by_cases hfit : bFitsB l0_1 = true
  · rw [if_pos hfit] at h
    obtain ⟨hlen, hf⟩ := bFitsB_iff hfit
    have HC := Lib.hid hr0_1; clear hr0_1
    have HF := Lib.hid hf; clear hf
    go_enter Try.func12, Try.ntmps12
    by_cases c1 : a0_0 < 1
    · rw [if_pos c1] at h
      obtain rfl := Option.some.inj h
      go_wp2
      go_ret
      exact ⟨rfl, (Below.refl _ _).alloc (Nat.le_refl _) _⟩
    rw [if_neg c1] at h
    by_cases c2 : a0_0 > 10000
    · rw [if_pos c2] at h
      obtain rfl := Option.some.inj h
      go_wp2
      go_ret
      exact ⟨rfl, (Below.refl _ _).alloc (Nat.le_refl _) _⟩
    rw [if_neg c2] at h
    have H := Lib.hid h; clear h
    go_wp2
    go_loopw [3, 19] (fun v3 v19 wr => ∃ x y : Int, v3 = .int .i64 x ∧ v19 = .int .i64 y ∧ Hid (∃ n : Nat, y = n ∧ n ≤ l0_1.length ∧ rtIds a0_0 x (l0_1.drop n) = rtIds a0_0 0 l0_1 ∧ RtI w a0_0 A0_1 c0_1 l0_1.length wr)) (fun _ v19 _ => l0_1.length - (intOf v19).toNat)
    case atStart => exact ⟨0, 0, rfl, rfl, Lib.hid ⟨0, rfl, Nat.zero_le _, rfl, World.alloc_heap_new w _, (Below.refl _ _).alloc (Nat.le_refl _) _⟩⟩
    case round =>
      obtain ⟨x, y, rfl, rfl, hid⟩ := hrel
      obtain ⟨n, hy, hn, hrt, hI⟩ := hid.out
      have cB0 : wr.cell? ⟨w.heap.size, 0, none⟩ = some (.int .i64 a0_0) := by simp [World.cell?, hI.1]
      have cB1 : wr.cell? ⟨w.heap.size, 1, none⟩ = some (.slice A0_1 l0_1.length c0_1) := by simp [World.cell?, hI.1]
      have HI := Lib.hid hI; clear hI
      have HRT := Lib.hid hrt; clear hrt
      by_cases hlt : n < l0_1.length
      · have p0 : 0 ≤ y := by omega
        have p1 : y < (l0_1.length : Int) := by omega
        obtain ⟨ad, rfl, hx0, hx1⟩ := at_T39 HC.out y p0 p1
        replace hx0 := (HI.out.2.cell (World.block_lt_of_cell? w _ hx0)).trans hx0
        replace hx1 := (HI.out.2.cell (World.block_lt_of_cell? w _ hx1)).trans hx1
        have HY := Lib.hid hy; clear hy
        have HD := Lib.hid (drop_rd l0_1 y n HY.out hlt)
        have HL := Lib.hid (lt_of_block HI.out.1)
        have cB0' : (wr.alloc (.cells #[.int .i64 (rd_T39 l0_1 y).f0, .string (rd_T39 l0_1 y).f1] 39)).cell? ⟨w.heap.size, 0, none⟩ = some (.int .i64 a0_0) := (World.cell?_alloc_old wr _ _ (Nat.ne_of_lt HL.out)).trans cB0
        by_cases d1 : (rd_T39 l0_1 y).f0 ≤ x
        · go_wp2
          refine bodyPost_ret (results_tmp rfl _ _ _) rfl ?_
          have h1 := HRT.out
          rw [HD.out, rtIds, if_pos (by omega)] at h1
          have h2 := H.out
          rw [← h1, if_neg (by simp)] at h2
          obtain rfl := Option.some.inj h2
          exact ⟨rfl, HI.out.2.alloc (Nat.le_of_lt HL.out) _⟩
        · by_cases d2 : a0_0 ≤ (rd_T39 l0_1 y).f0
          · go_wp2
            refine bodyPost_ret (results_tmp rfl _ _ _) rfl ?_
            have h1 := HRT.out
            rw [HD.out, rtIds, if_neg (by omega), if_pos (by omega)] at h1
            have h2 := H.out
            rw [← h1, if_neg (by simp)] at h2
            obtain rfl := Option.some.inj h2
            exact ⟨rfl, HI.out.2.alloc (Nat.le_of_lt HL.out) _⟩
          · go_wp2
            go_roundw
            case rel =>
              have h1 := HRT.out
              rw [HD.out, rtIds, if_neg (by omega), if_neg (by omega)] at h1
              have h3 := HY.out
              have hw : wrap64 (y + 1) = y + 1 := by unfold wrap64; omega
              exact ⟨_, _, rfl, rfl, Lib.hid ⟨n + 1, (by first | omega | (simp [hw]; omega)), by omega, h1, (Below.heap_alloc wr _ _ HL.out).trans HI.out.1, HI.out.2.alloc (Nat.le_of_lt HL.out) _⟩⟩
            case measure =>
              have h3 := HY.out
              have hw : wrap64 (y + 1) = y + 1 := by unfold wrap64; omega
              first | (simp [intOf]; omega) | (simp [intOf, hw]; omega)
      · have hn' : n = l0_1.length := by omega
        have h1 := HRT.out
        rw [hn', List.drop_length, rtIds] at h1
        have h := H.out
        rw [if_pos h1.symm] at h
        clear h1
        by_cases c3 : l0_1.length > 128
        · rw [if_pos c3] at h
          obtain rfl := Option.some.inj h
          go_wp2
          go_ret
          exact ⟨rfl, HI.out.2⟩
        rw [if_neg c3] at h
        obtain ⟨tv, htv, h⟩ := Option.bind_eq_some_iff.1 h
        have H2 := Lib.hid h; clear h
        have HTV := Lib.hid htv; clear htv
        have hyl : ¬ (y < (l0_1.length : Int)) := by omega
        clear hid hy hn'
        go_wp2
        go_loopw [44] (fun v44 wr2 => ∃ y : Int, v44 = .int .i64 y ∧ Hid (∃ n : Nat, y = n ∧ n ≤ l0_1.length ∧ rtValid k (l0_1.drop n) = some tv ∧ RtI w a0_0 A0_1 c0_1 l0_1.length wr2)) (fun v44 _ => l0_1.length - (intOf v44).toNat)
        case atStart => exact ⟨0, rfl, Lib.hid ⟨0, rfl, Nat.zero_le _, HTV.out, HI.out⟩⟩
        case round =>
          clear HI cB0 cB1 hlt
          obtain ⟨z, rfl, hid⟩ := hrel
          obtain ⟨m, hz, hm, hrt, hI⟩ := hid.out
          have cB0 : wr.cell? ⟨w.heap.size, 0, none⟩ = some (.int .i64 a0_0) := by simp [World.cell?, hI.1]
          have cB1 : wr.cell? ⟨w.heap.size, 1, none⟩ = some (.slice A0_1 l0_1.length c0_1) := by simp [World.cell?, hI.1]
          have HI := Lib.hid hI; clear hI
          have HRT := Lib.hid hrt; clear hrt
          by_cases hlt : m < l0_1.length
          · have p0 : 0 ≤ z := by omega
            have p1 : z < (l0_1.length : Int) := by omega
            obtain ⟨ad, rfl, hx0, hx1⟩ := at_T39 HC.out z p0 p1
            replace hx0 := (HI.out.2.cell (World.block_lt_of_cell? w _ hx0)).trans hx0
            replace hx1 := (HI.out.2.cell (World.block_lt_of_cell? w _ hx1)).trans hx1
            have HZ := Lib.hid hz; clear hz
            have HL := Lib.hid (lt_of_block HI.out.1)
            have h1 := HRT.out
            rw [drop_rd l0_1 z m HZ.out hlt, rtValid] at h1
            obtain ⟨t1, ht1, h1⟩ := Option.bind_eq_some_iff.1 h1
            have HT1 := Lib.hid ht1; clear ht1
            have HRT1 := Lib.hid h1; clear h1
            go_wp2_with fail
            refine (text_Valid.calls k _ t1 _ HT1.out).mono ?_
            rintro e w2 ⟨rfl, ⟨nd, rfl⟩⟩
            cases t1
            · go_wp2
              refine bodyPost_ret (results_tmp rfl _ _ _) rfl ?_
              have h1 := HRT1.out
              rw [if_neg (by simp)] at h1
              obtain rfl := Option.some.inj h1
              have h := H2.out
              rw [if_neg (by simp)] at h
              obtain rfl := Option.some.inj h
              exact ⟨rfl, pw_below_drewN (HI.out.2.alloc (Nat.le_of_lt HL.out) _) _⟩
            · go_wp2
              go_roundw
              case rel =>
                have h3 := HZ.out
                have hw : wrap64 (z + 1) = z + 1 := by unfold wrap64; omega
                have h1 := HRT1.out
                first | rw [if_pos rfl] at h1 | rw [if_pos trivial] at h1
                exact ⟨_, rfl, Lib.hid ⟨m + 1, (by first | omega | (simp [hw]; omega)), by omega, h1, blk_drewN ((Below.heap_alloc wr _ _ HL.out).trans HI.out.1) _, pw_below_drewN (HI.out.2.alloc (Nat.le_of_lt HL.out) _) _⟩⟩
              case measure =>
                have h3 := HZ.out
                have hw : wrap64 (z + 1) = z + 1 := by unfold wrap64; omega
                first | (simp [intOf]; omega) | (simp [intOf, hw]; omega)
          · have hm' : m = l0_1.length := by omega
            have h1 := HRT.out
            rw [hm', List.drop_length, rtValid] at h1
            obtain rfl := Option.some.inj h1
            clear h1
            have h := H2.out
            rw [if_pos rfl] at h
            have H3 := Lib.hid h; clear h
            have hcA : Kd.C k39 wr A0_1 l0_1.length l0_1 := Kd.C_below HC.out HI.out.2
            have HCA := Lib.hid hcA; clear hcA
            go_wp2_with fail
            refine start_ (n := 7) (S := fun w' => w'.cell? ⟨w.heap.size, 0, none⟩ = some (.int .i64 a0_0) ∧ w'.cell? ⟨w.heap.size, 1, none⟩ = some (.slice A0_1 l0_1.length c0_1)) (ds := []) #[false, false, false, false, false, false, false] (by kernel_rfl) rfl rfl ⟨cB0, cB1⟩ (fun hHeld => ?_)
            refine pure_ (i := 3) (N := some 56) (v := ?_) (a' := ?_) #[false, false, false, true, false, false, false] rfl rfl (by kernel_rfl) (fun _ _ _ h => h) (Or.inl ⟨by rfl, ?_⟩) ?_ ?_
            rotate_left
            · intro w'
              go_simp
              with_reducible rfl
            rotate_left
            · simp only [Act.put, List.setIfInBounds_toArray, List.set_cons_zero, List.set_cons_succ, i64_w, i32_w]
              rfl
            refine take_ (i := 0) (N := some 53) (v := ?_) (a' := ?_) #[true, false, false, true, false, false, false] rfl rfl (by kernel_rfl) (fun _ _ _ h => h) (Or.inl ⟨by rfl, ?_⟩) hHeld ?_ ?_
            rotate_left
            · rintro w' ⟨s0, s1⟩
              go_simp
              with_reducible rfl
            rotate_left
            · simp only [Act.put, List.setIfInBounds_toArray, List.set_cons_zero, List.set_cons_succ, i64_w, i32_w]
              rfl
            refine take_ (i := 4) (N := some 57) (v := ?_) (a' := ?_) #[true, false, false, true, true, false, false] rfl rfl (by kernel_rfl) (fun _ _ _ h => h) (Or.inl ⟨by rfl, ?_⟩) hHeld ?_ ?_
            rotate_left
            · rintro w' ⟨s0, s1⟩
              go_simp
              with_reducible rfl
            rotate_left
            · simp only [Act.put, List.setIfInBounds_toArray, List.set_cons_zero, List.set_cons_succ, i64_w, i32_w]
              rfl
            refine pure_ (i := 5) (N := some 58) (v := ?_) (a' := ?_) #[true, false, false, true, true, true, false] rfl rfl (by kernel_rfl) (fun _ _ _ h => h) (Or.inl ⟨by rfl, ?_⟩) ?_ ?_
            rotate_left
            · intro w'
              go_simp
              with_reducible rfl
            rotate_left
            · simp only [Act.put, List.setIfInBounds_toArray, List.set_cons_zero, List.set_cons_succ, i64_w, i32_w]
              rfl
            refine one_ (i := 1) (N := some 54) #[true, true, false, true, true, true, false] rfl rfl (by kernel_rfl) (by decide) (fun K hK => ?_)
            refine goes_ Try.func19 (by kernel_rfl) rfl #[.agg #[.int .i64 a0_0, .slice A0_1 l0_1.length c0_1]] (by rfl) rfl rfl (by simp only [List.map_toArray, List.map_cons, List.map_nil]; rfl) ?_
            with_reducible refine (bytext_calls a0_0 A0_1 c0_1 l0_1 _ HF.out (Kd.C_drew HCA.out) hlen).mono ?_
            rintro e w1 ⟨mb, rfl, hown, hB1⟩
            refine ⟨_, rfl, ?_⟩
            have hblt : w.heap.size < wr.heap.size := lt_of_block HI.out.1
            have cB0a : w1.cell? ⟨w.heap.size, 0, none⟩ = some (.int .i64 a0_0) := (hB1.cell (p := ⟨w.heap.size, 0, none⟩) hblt).trans cB0
            have cB1a : w1.cell? ⟨w.heap.size, 1, none⟩ = some (.slice A0_1 l0_1.length c0_1) := (hB1.cell (p := ⟨w.heap.size, 1, none⟩) hblt).trans cB1
            refine hK.out _ _ ⟨cB0a, cB1a⟩ (fun hHeld => ?_)
            clear hK K
            refine norm_ (a' := ?_) ?_ ?_
            rotate_left
            · show Act.put _ (some 54) _ = _
              simp only [Act.put, List.setIfInBounds_toArray, List.set_cons_zero, List.set_cons_succ, i64_w, i32_w]
              rfl
            refine one_ (i := 2) (N := some 55) #[true, true, true, true, true, true, false] rfl rfl (by kernel_rfl) (by decide) (fun K hK => ?_)
            have hlm := hown.len Try.underlying45 3
            refine value_ (w1 := ?_) (v := ?_) (by rfl) rfl ?_ ?_
            rotate_left 2
            · go_simp
              constructor
              · rfl
              · rfl
            refine hK.out _ _ ⟨cB0a, cB1a⟩ (fun hHeld => ?_)
            clear hK K
            refine norm_ (a' := ?_) ?_ ?_
            rotate_left
            · show Act.put _ (some 55) _ = _
              simp only [Act.put, List.setIfInBounds_toArray, List.set_cons_zero, List.set_cons_succ, i64_w, i32_w]
              rfl
            refine pure_ (i := 6) (N := some 59) (v := ?_) (a' := ?_) #[true, true, true, true, true, true, true] rfl rfl (by kernel_rfl) (fun _ _ _ h => h) (Or.inl ⟨by rfl, ?_⟩) ?_ ?_
            rotate_left
            · intro w'
              go_simp
              with_reducible rfl
            rotate_left
            · simp only [Act.put, List.setIfInBounds_toArray, List.set_cons_zero, List.set_cons_succ, i64_w, i32_w]
              rfl
            refine done_ (by kernel_rfl) ?_

            have HB9 := Lib.hid (HI.out.2.trans ((below_drew (Below.refl _ _)).trans (hB1.mono HI.out.2.size)))
            clear hown hB1 hlm
            have h := H3.out
            by_cases c4 : btCount l0_1 < l0_1.length
            · rw [if_pos c4] at h
              obtain rfl := Option.some.inj h
              rw [← btMap_size] at c4
              have c4b : decide ((Maps.size (btMap l0_1) : Int) < (l0_1.length : Int)) = true := decide_eq_true (by omega)
              go_wp2
              go_ret
              exact ⟨rfl, HB9.out⟩
            · rw [if_neg c4] at h
              obtain rfl := Option.some.inj h
              rw [← btMap_size] at c4
              have c4b : decide ((Maps.size (btMap l0_1) : Int) < (l0_1.length : Int)) = false := decide_eq_false (by omega)
              go_wp2
              go_ret
              exact ⟨rfl, HB9.out⟩
  · rw [if_neg hfit] at h
    exact absurd h (by simp)


end Go.Proofs.Ytgeejlfifeinmaa.PAll
