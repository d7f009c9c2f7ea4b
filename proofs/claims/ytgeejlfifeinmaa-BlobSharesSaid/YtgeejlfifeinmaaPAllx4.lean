-- Written by this session's program hprint.py over the kit's print. Not trusted: Lean checks it.
import Derived.Test.YtgeejlfifeinmaaPAllx0
import Derived.Test.YtgeejlfifeinmaaPAllx2
import Derived.Test.YtgeejlfifeinmaaPAllx3
import Derived.Test.YtgeejlfifeinmaaBlobMap
import Derived.Lib.Hide
import Derived.Outline
import Derived.WalkSpells
namespace Go.Proofs.Ytgeejlfifeinmaa.PAll
open Go.RowKit Go.Proofs.YtgeejlfifeinmaaW.PrintWords Go.Proofs.YtgeejlfifeinmaaW.PrintLast Go.Proofs.YtgeejlfifeinmaaW.PrintMore
attribute [local go_sem] max2_int min2_int max_two min_two max_three min_three max_four min_four   -- for this text's walks alone
set_option linter.unusedVariables false
set_option linter.unusedSimpArgs false

--HAND blob_put.tpl
--HANDIMPORT Derived.Test.YtgeejlfifeinmaaBlobMap
--HANDIMPORT Derived.Lib.Hide
--HANDIMPORT Derived.Outline
--HANDIMPORT Derived.WalkSpells

/-! ### blob_Put: function 7 -/
set_option maxRecDepth 100000 in
set_option maxHeartbeats 4000000 in
theorem bclone_calls (A : Option Addr) (c : Nat) (l : List S39) (w : World) (hC : Kd.C k39 w A l.length l) (hc : l.length ≤ c) (hl : l.length ≤ 5864062014805) :
    Calls Try.prog 20 #[.slice A l.length c] w fun e w' => ∃ v : Value, e = .returned v ∧ Kd.R k39 39 w' w.heap.size (fun _ => True) v l ∧ Below w.heap.size w w' := by
  have HC := Lib.hid hC; clear hC
  have q22 : ∀ (w : World) (a : Option Addr) (n c : Nat), (binOp .eql 22 (.slice a n c) (.slice none 0 0)).run Try.prog w = .ok (.bool a.isNone) w := fun w a n c => Lib.run_eql_slice_nil w _ _ a n c 0 0 Try.underlying22
  go_enter Try.func20, Try.ntmps20
  cases A with
  | none =>
    have h0 : l = [] := by
      rcases l with _ | ⟨x, l⟩
      · rfl
      · obtain ⟨ad, h, _⟩ := HC.out.2.2 (by simp); cases h
    subst h0
    go_wp2
    go_ret
    exact ⟨_, rfl, Kd.R_nil _ _ _ _ _, Below.refl _ _⟩
  | some ad =>
    have hm := HC.out.2.1
    have hR0 : Kd.R k39 39 (w.alloc (.cells #[] 39)) w.heap.size (fun _ => True) (.slice (some ⟨w.heap.size, 0, none⟩) 0 0) [] :=
      ⟨fun _ _ => trivial, [], ⟨rfl, .inr ⟨w.heap.size, 0, #[], rfl, Nat.le_refl _, World.alloc_heap_new w _, Nat.le_refl _, Nat.zero_le _, rfl, rfl⟩⟩, rfl, fun j p hj => by simp at hj⟩
    have hC1 := Kd.C_below HC.out ((Below.refl _ _).alloc (Nat.le_refl _) (.cells #[] 39))
    have HR0 := Lib.hid hR0; clear hR0
    have HC1 := Lib.hid hC1; clear hC1
    go_wp2_with (at_builtin; refine Kd.R_append_rows k39 (w0 := w) w.heap.size rfl (.tmp 5) (.tmp 6) 22 39 _ 24 rfl Try.underlying22 info39 rfl (by decide) (by decide) _ [] l (some ad) l.length c (fun _ => True) (fun _ => False) rfl rfl HR0.out HC1.out (fun x cs h => by rw [k39_open h]; exact k39_mkM _ _ _ _) (fun _ h => h.elim) (fun _ _ => trivial) ((Below.refl _ _).alloc (Nat.le_refl _) _) (by simp) (by simp; omega) ?_; intro v1 w1 ho hb1 hg1 hat1)
    go_ret
    exact ⟨_, rfl, by simpa using ho, hb1⟩
def blob_Put.f (k : Nat) (a0_0 : Int) (l : List S39) (t : ByteArray) : Option (Int × (List S39) × Int × Int) :=
  if t.size ≤ maxLen then
    (blob_Right.f k a0_0 l).bind fun e => if e = 0 then
      (text_Valid.f k t).bind fun v => if v = true then
        if btHas l t = true then some (a0_0, l, btId l t, 0) else if 128 ≤ l.length then some (0, [], 0, 9) else if 9999 < a0_0 then some (0, [], 0, 9) else some (a0_0 + 1, l ++ [⟨a0_0, t⟩], a0_0, 0)
      else some (0, [], 0, 3)
    else some (0, [], 0, e)
  else none
theorem blob_Put.mono : ∀ a0 a1 a2 k, LeO (blob_Put.f k a0 a1 a2) (blob_Put.f (k + 1) a0 a1 a2) := by
  intro a0 a1 a2 k
  unfold blob_Put.f
  exact LeO.ite (LeO.bind (blob_Right.mono _ _ _) (fun _ => LeO.ite (LeO.bind (text_Valid.mono _ _) (fun _ => LeO.refl _)) (LeO.refl _))) (LeO.refl _)
theorem right_zero {k : Nat} {a0 : Int} {l : List S39} (h : blob_Right.f k a0 l = some 0) : bFitsB l = true ∧ 1 ≤ a0 ∧ a0 ≤ 10000 := by
  unfold blob_Right.f at h
  by_cases c0 : bFitsB l = true
  · rw [if_pos c0] at h
    by_cases c1 : a0 < 1
    · rw [if_pos c1] at h; simp at h
    · rw [if_neg c1] at h
      by_cases c2 : a0 > 10000
      · rw [if_pos c2] at h; simp at h
      · exact ⟨c0, by omega, by omega⟩
  · rw [if_neg c0] at h; simp at h
theorem put_ret {W : World} {b : Nat} {cs : Array Value} {x y : Value} (h : W.heap[b]? = some (.cells cs 24 (0, 0))) (hc : cs.size = 2) : ((W.setCell ⟨b, 0, none⟩ x).setCell ⟨b, 1, none⟩ y).heap[b]? = some (.cells #[x, y] 24 (0, 0)) := by
  obtain ⟨l⟩ := cs
  match l, hc with
  | [p, q], _ => exact blk_put (blk_put h 0 x rfl) 1 y rfl
set_option maxRecDepth 100000 in
set_option maxHeartbeats 8000000 in
theorem blob_Put.calls (k : Nat) (a0_0 : Int) (P0_1_ : Nat → Prop) (A0_1 : Option Addr) (c0_1 : Nat) (l0_1 : List (S39)) (a1 : ByteArray) (r1 : Int) (r2 : List (S39)) (r3 : Int) (r4 : Int) (w : World) (hs0_1 : Kd.V k39 39 w w.heap.size (fun k_ => P0_1_ k_) (.slice A0_1 l0_1.length c0_1) l0_1) (h : blob_Put.f k a0_0 l0_1 a1 = some (r1, r2, r3, r4)) :
    Calls Try.prog 7 #[.agg #[.int .i64 a0_0, .slice A0_1 l0_1.length c0_1], .string a1] w fun e w' => ∃ v1_ : Value, e = .returned (.tuple #[.agg #[.int .i64 r1, v1_], .int .i64 r3, .int .i64 r4]) ∧ Kd.V k39 39 w' w.heap.size (fun k_ => (P0_1_ k_ ∨ w.heap.size ≤ k_)) v1_ r2 ∧ Below w.heap.size w w' := by
  unfold blob_Put.f at h
  by_cases hsz : a1.size ≤ maxLen
  · rw [if_pos hsz] at h
    obtain ⟨e1, he1, h⟩ := Option.bind_eq_some_iff.1 h
    obtain ⟨_, hc0, hC0⟩ := Kd.V_reads' hs0_1
    have HV := Lib.hid hs0_1; clear hs0_1
    have HC := Lib.hid hC0; clear hC0
    have H := Lib.hid h; clear h
    have HE1 := Lib.hid he1; clear he1
    have hB2 : Below w.heap.size w ((w.alloc (.cells #[.int .i64 a0_0, .slice A0_1 l0_1.length c0_1] 24)).alloc (.cells #[.int .i64 0, .slice none 0 0] 24)) := ((Below.refl _ _).alloc (Nat.le_refl _) _).alloc (by simp) _
    go_enter Try.func7, Try.ntmps7
    go_wp2_with fail
    refine (blob_Right.calls k a0_0 A0_1 c0_1 l0_1 e1 _ (Kd.C_below HC.out hB2) hc0 HE1.out).mono ?_
    rintro e w1 ⟨rfl, hB1⟩
    have hs2 : ((w.alloc (.cells #[.int .i64 a0_0, .slice A0_1 l0_1.length c0_1] 24)).alloc (.cells #[.int .i64 0, .slice none 0 0] 24)).heap.size = w.heap.size + 2 := by simp
    have hbS : w1.heap[w.heap.size]? = some (.cells #[.int .i64 a0_0, .slice A0_1 l0_1.length c0_1] 24 (0, 0)) := (hB1.block w.heap.size (by omega)).trans ((Below.heap_alloc _ _ _ (by simp)).trans (World.alloc_heap_new w _))
    have hbR : w1.heap[w.heap.size + 1]? = some (.cells #[.int .i64 0, .slice none 0 0] 24 (0, 0)) := (hB1.block (w.heap.size + 1) (by omega)).trans (by have := World.alloc_heap_new (w.alloc (.cells #[.int .i64 a0_0, .slice A0_1 l0_1.length c0_1] 24)) (.cells #[.int .i64 0, .slice none 0 0] 24); rwa [World.size_alloc] at this)
    have HB1 := Lib.hid (hB2.trans (hB1.mono (by omega)))
    clear hB1 hB2 hs2
    have HBS := Lib.hid hbS
    have HBR := Lib.hid hbR
    have cS0 : w1.cell? ⟨w.heap.size, 0, none⟩ = some (.int .i64 a0_0) := by simp [World.cell?, hbS]
    have cS1 : w1.cell? ⟨w.heap.size, 1, none⟩ = some (.slice A0_1 l0_1.length c0_1) := by simp [World.cell?, hbS]
    have cR0 : w1.cell? ⟨w.heap.size + 1, 0, none⟩ = some (.int .i64 0) := by simp [World.cell?, hbR]
    have cR1 : w1.cell? ⟨w.heap.size + 1, 1, none⟩ = some (.slice none 0 0) := by simp [World.cell?, hbR]
    have fR0 : w1.frozen? ⟨w.heap.size + 1, 0, none⟩ = false := by simp [World.frozen?, hbR]
    have fR1 : w1.frozen? ⟨w.heap.size + 1, 1, none⟩ = false := by simp [World.frozen?, hbR]
    clear hbS hbR
    by_cases c1 : e1 = 0
    · subst c1
      have h := H.out
      rw [if_pos rfl] at h
      obtain ⟨tv, htv, h⟩ := Option.bind_eq_some_iff.1 h
      obtain ⟨hfb, hge, hle⟩ := right_zero HE1.out
      obtain ⟨hlen, hf⟩ := bFitsB_iff hfb
      clear H
      have H := Lib.hid h; clear h
      have HF := Lib.hid hf; clear hf hfb
      have HTV := Lib.hid htv; clear htv
      go_wp2_with fail
      refine (text_Valid.calls k _ tv _ HTV.out).mono ?_
      rintro e w2 ⟨rfl, ⟨nd, rfl⟩⟩
      cases tv
      · have h := H.out
        rw [if_neg (by simp)] at h
        simp only [Option.some.injEq, Prod.mk.injEq] at h
        obtain ⟨rfl, rfl, rfl, rfl⟩ := h
        go_wp2
        refine bodyPost_ret (results_ctt rfl _ _ (w.heap.size + 1) 24 #[.int .i64 0, .slice none 0 0] (0, 0) _ rfl (put_ret (blk_drewN HBR.out _) rfl) Try.underlying24 rfl (by kernel_rfl)) rfl ?_
        exact ⟨_, rfl, Kd.V_nil _ _ _ _ _, ((pw_below_drewN HB1.out _).setCell (by simp) _).setCell (by simp) _⟩
      · have h := H.out
        rw [if_pos rfl] at h
        clear H
        have H := Lib.hid h; clear h
        go_wp2_with fail
        refine (bytext_calls a0_0 A0_1 c0_1 l0_1 _ HF.out (Kd.C_below HC.out (pw_below_drewN HB1.out nd)) hlen).mono ?_
        rintro e w3 ⟨mb, rfl, hown, hB3⟩
        have hbS := blk_below (blk_drewN HBS.out nd) hB3
        have hbR := blk_below (blk_drewN HBR.out nd) hB3
        have HB3 := Lib.hid ((pw_below_drewN HB1.out nd).trans (hB3.mono (pw_below_drewN HB1.out nd).size))
        clear cS0 cS1 cR0 cR1 fR0 fR1 HBS HBR hB3
        have HBS := Lib.hid hbS
        have HBR := Lib.hid hbR
        have cS0 : w3.cell? ⟨w.heap.size, 0, none⟩ = some (.int .i64 a0_0) := blk_cell hbS 0
        have cS1 : w3.cell? ⟨w.heap.size, 1, none⟩ = some (.slice A0_1 l0_1.length c0_1) := blk_cell hbS 1
        have cR0 : w3.cell? ⟨w.heap.size + 1, 0, none⟩ = some (.int .i64 0) := blk_cell hbR 0
        have cR1 : w3.cell? ⟨w.heap.size + 1, 1, none⟩ = some (.slice none 0 0) := blk_cell hbR 1
        have fR0 := blk_frozen hbR 0
        have fR1 := blk_frozen hbR 1
        have fS0 := blk_frozen hbS 0
        have fS1 := blk_frozen hbS 1
        clear hbS hbR
        have hkey := WideMaps.keyOf_string_mk Try.underlying9 hsz
        have h := H.out
        have hsR : w.heap.size + 1 < w3.heap.size := lt_of_block HBR.out
        have HSR := Lib.hid hsR; clear hsR
        by_cases c2 : btHas l0_1 a1 = true
        · rw [if_pos c2] at h
          simp only [Option.some.injEq, Prod.mk.injEq] at h
          obtain ⟨rfl, rfl, rfl, rfl⟩ := h
          have hhas : Maps.has (btMap l0_1) (.string a1.data.toList) = true := (btMap_has a1 l0_1).trans c2
          go_wp2_with (at_lookup; refine wpList_lookup_own_ok_int _ rfl _ _ 45 rfl 9 3 .i64 (Maps.string_keyed Try.underlying9) Try.underlying45 Try.underlying3 (Try.zeroValue3 _) mb l0_1.length (btMap l0_1) rfl hown _ _ rfl hkey ?_; intro c hat hwc; rw [btMap_at] at hat; obtain rfl : btId l0_1 a1 = c := (by injection hat with hat; injection hat); rw [hhas])
          refine bodyPost_ret (results_ctt rfl _ _ (w.heap.size + 1) 24 #[.int .i64 a0_0, .slice A0_1 l0_1.length c0_1] (0, 0) _ rfl (put_ret HBR.out rfl) Try.underlying24 rfl (by kernel_rfl)) rfl ?_
          have hB9 := (HB3.out.setCell (p := ⟨w.heap.size + 1, 0, none⟩) (by simp) (.int .i64 a0_0)).setCell (p := ⟨w.heap.size + 1, 1, none⟩) (by simp) (.slice A0_1 l0_1.length c0_1)
          exact ⟨_, rfl, Kd.V_mono (Kd.V_below HV.out hB9) (fun _ hk => .inl hk), hB9⟩
        have hhas : Maps.has (btMap l0_1) (.string a1.data.toList) = false := (btMap_has a1 l0_1).trans (by simpa using c2)
        rw [if_neg c2] at h
        by_cases c3 : 128 ≤ l0_1.length
        · rw [if_pos c3] at h
          simp only [Option.some.injEq, Prod.mk.injEq] at h
          obtain ⟨rfl, rfl, rfl, rfl⟩ := h
          go_wp2_with (at_lookup; refine wpList_lookup_own_ok_int _ rfl _ _ 45 rfl 9 3 .i64 (Maps.string_keyed Try.underlying9) Try.underlying45 Try.underlying3 (Try.zeroValue3 _) mb l0_1.length (btMap l0_1) rfl hown _ _ rfl hkey ?_; intro c hat hwc; rw [btMap_at] at hat; obtain rfl : btId l0_1 a1 = c := (by injection hat with hat; injection hat); rw [hhas])
          refine bodyPost_ret (results_ctt rfl _ _ (w.heap.size + 1) 24 #[.int .i64 0, .slice none 0 0] (0, 0) _ rfl (put_ret HBR.out rfl) Try.underlying24 rfl (by kernel_rfl)) rfl ?_
          exact ⟨_, rfl, Kd.V_nil _ _ _ _ _, (HB3.out.setCell (by simp) _).setCell (by simp) _⟩
        rw [if_neg c3] at h
        by_cases c4 : 9999 < a0_0
        · rw [if_pos c4] at h
          simp only [Option.some.injEq, Prod.mk.injEq] at h
          obtain ⟨rfl, rfl, rfl, rfl⟩ := h
          go_wp2_with (at_lookup; refine wpList_lookup_own_ok_int _ rfl _ _ 45 rfl 9 3 .i64 (Maps.string_keyed Try.underlying9) Try.underlying45 Try.underlying3 (Try.zeroValue3 _) mb l0_1.length (btMap l0_1) rfl hown _ _ rfl hkey ?_; intro c hat hwc; rw [btMap_at] at hat; obtain rfl : btId l0_1 a1 = c := (by injection hat with hat; injection hat); rw [hhas])
          refine bodyPost_ret (results_ctt rfl _ _ (w.heap.size + 1) 24 #[.int .i64 0, .slice none 0 0] (0, 0) _ rfl (put_ret HBR.out rfl) Try.underlying24 rfl (by kernel_rfl)) rfl ?_
          exact ⟨_, rfl, Kd.V_nil _ _ _ _ _, (HB3.out.setCell (by simp) _).setCell (by simp) _⟩
        rw [if_neg c4] at h
        simp only [Option.some.injEq, Prod.mk.injEq] at h
        obtain ⟨rfl, rfl, rfl, rfl⟩ := h
        go_wp2_with (at_lookup; refine wpList_lookup_own_ok_int _ rfl _ _ 45 rfl 9 3 .i64 (Maps.string_keyed Try.underlying9) Try.underlying45 Try.underlying3 (Try.zeroValue3 _) mb l0_1.length (btMap l0_1) rfl hown _ _ rfl hkey ?_; intro c hat hwc; rw [btMap_at] at hat; obtain rfl : btId l0_1 a1 = c := (by injection hat with hat; injection hat); rw [hhas])
        refine (bclone_calls A0_1 c0_1 l0_1 _ (Kd.C_below HC.out HB3.out) hc0 (by omega)).mono ?_
        rintro e w4 ⟨v, rfl, hR, hB4⟩
        have hR' : Kd.R k39 39 w4 w3.heap.size (fun k => w3.heap.size ≤ k) v l0_1 := Kd.R_mono (Kd.R_bound hR) (fun k hk => hk.2.1)
        have HR4 := Lib.hid hR'; clear hR hR'
        have HB4 := Lib.hid hB4; clear hB4
        clear cS0 cS1 cR0 cR1 fR0 fR1 fS0 fS1
        go_wp2_with (at_builtin; refine Kd.R_append k39 (w0 := w3) (W := w4) w3.heap.size rfl (.tmp 44) (.tmp 48) 22 39 _ 24 rfl Try.underlying22 info39 rfl (by decide) (by decide) v l0_1 ⟨a0_0, a1⟩ [.int .i64 a0_0, .string a1] (fun k => w3.heap.size ≤ k) (fun _ => False) rfl rfl (k39_mkM _ _ _ _) (fun _ h => h.elim) (fun k hk => Nat.le_trans HB4.out.size hk) HR4.out HB4.out HB4.out.size (by omega) ?_; intro v1 w5 ho hb5 hg5 hat5; obtain ⟨A1, c1, rfl⟩ := Kd.R_slice ho; have hbS5 := blk_below HBS.out hb5; have hbR5 := blk_below HBR.out hb5; have cS0 := blk_cell hbS5 0; have cS1 := blk_cell hbS5 1; have fS0 := blk_frozen hbS5 0; have fS1 := blk_frozen hbS5 1; have cR0 := blk_cell hbR5 0; have cR1 := blk_cell hbR5 1; have fR0 := blk_frozen hbR5 0; have fR1 := blk_frozen hbR5 1; simp only [List.getElem?_toArray, List.getElem?_cons_zero, List.getElem?_cons_succ] at cS0 cS1 cR0 cR1)
        have hsr := HSR.out
        refine bodyPost_ret (results_ctt rfl _ _ (w.heap.size + 1) 24 #[.int .i64 (a0_0 + 1), .slice A1 (l0_1.length + 1) c1] (0, 0) _ rfl (put_ret (blk_far (blk_far hbR5 (by simp) _) (by simp) _) rfl) Try.underlying24 rfl (by kernel_rfl)) rfl ?_
        have hl1 : (l0_1 ++ [(⟨a0_0, a1⟩ : S39)]).length = l0_1.length + 1 := by simp
        rw [hl1] at ho
        have ho9 := Kd.R_far (p := ⟨w.heap.size + 1, 1, none⟩) (Kd.R_far (p := ⟨w.heap.size + 1, 0, none⟩) (Kd.R_far (p := ⟨w.heap.size, 0, none⟩) (Kd.R_far (p := ⟨w.heap.size, 1, none⟩) ho (fun k hk => by simp; omega) (.slice A1 (l0_1.length + 1) c1)) (fun k hk => by simp; omega) (.int .i64 (a0_0 + 1))) (fun k hk => by simp; omega) (.int .i64 (a0_0 + 1))) (fun k hk => by simp; omega) (.slice A1 (l0_1.length + 1) c1)
        have hB5 := HB3.out.trans (hb5.mono HB3.out.size)
        exact ⟨_, rfl, Kd.V_mono (Kd.R_V ho9) (fun k hk => .inr (by have := HB3.out.size; omega)), (((hB5.setCell (by simp) _).setCell (by simp) _).setCell (by simp) _).setCell (by simp) _⟩
    · have h := H.out
      rw [if_neg c1] at h
      simp only [Option.some.injEq, Prod.mk.injEq] at h
      obtain ⟨rfl, rfl, rfl, rfl⟩ := h
      go_wp2
      refine bodyPost_ret (results_ctt rfl _ _ (w.heap.size + 1) 24 #[.int .i64 0, .slice none 0 0] (0, 0) _ rfl (put_ret HBR.out rfl) Try.underlying24 rfl (by kernel_rfl)) rfl ?_
      exact ⟨_, rfl, Kd.V_nil _ _ _ _ _, (HB1.out.setCell (by simp) _).setCell (by simp) _⟩
  · rw [if_neg hsz] at h
    exact absurd h (by simp)


end Go.Proofs.Ytgeejlfifeinmaa.PAll
