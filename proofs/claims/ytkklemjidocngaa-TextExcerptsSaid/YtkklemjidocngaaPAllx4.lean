-- Written by this session's program hprint.py over the kit's print. Not trusted: Lean checks it.
import Derived.Test.YtkklemjidocngaaPAllx0
import Derived.Lib.ConvBytes
import Derived.Lib.Hide
import Derived.Laws.BytesArg
import Derived.Outline
namespace Go.Proofs.Ytkklemjidocngaa.PAll
open Go.RowKit Go.Proofs.YtkklemjidocngaaW.PrintWords Go.Proofs.YtkklemjidocngaaW.PrintLast Go.Proofs.YtkklemjidocngaaW.PrintMore
attribute [local go_sem] max2_int min2_int max_two min_two max_three min_three max_four min_four   -- for this text's walks alone
set_option linter.unusedVariables false
set_option linter.unusedSimpArgs false

--HAND text_fold.tpl
--HANDIMPORT Derived.Lib.ConvBytes
--HANDIMPORT Derived.Lib.Hide
--HANDIMPORT Derived.Laws.BytesArg
--HANDIMPORT Derived.Outline

/-! ### text_Fold: function 14 -/
/-- a byte's number, lower case -/
def foldN (c : Int) : Int := if 65 ≤ c ∧ c ≤ 90 then c + 32 else c
/-- the bytes of s, the first k of them folded -/
def foldAt (s : ByteArray) (k : Nat) (j : Nat) : Int := if j < k then foldN ((bytesOf s).getD j 0) else (bytesOf s).getD j 0
def foldS (s : ByteArray) : ByteArray := Go.strOfNums ((bytesOf s).map foldN)
def text_Fold.f (a0 : ByteArray) : Option ByteArray := if a0.size ≤ 1099511627776 then some (foldS a0) else none
/-- what the bytes' row is behind k rounds -/
def FoI (s : ByteArray) (w : World) (k : Nat) (W : World) : Prop :=
  (∀ j, j < s.size → W.cell? ⟨w.heap.size, j, none⟩ = some (.int .u8 (foldAt s k j)) ∧ W.frozen? ⟨w.heap.size, j, none⟩ = false) ∧ Below w.heap.size w W ∧ w.heap.size < W.heap.size
theorem bytesWorld_free (w : World) (e : TypeId) (s : ByteArray) (j : Nat) (hj : j < s.size) : (Lib.bytesWorld w e s).frozen? ⟨w.heap.size, j, none⟩ = false := by
  have h : (Lib.bytesCells w e s).size = s.size + (grownCap w s.size 0 e - s.size) := by
    unfold Lib.bytesCells
    rw [Array.size_append, Array.size_map, Array.size_replicate]
    rfl
  have h2 : ¬ (Lib.bytesCells w e s).size ≤ j := by omega
  have h3 := Lib.bytesWorld_at_new w e s
  generalize Lib.bytesCells w e s = cs at h2 h3
  clear h
  simp [World.frozen?, h3]
  omega
theorem bytesOf_range (s : ByteArray) (j : Nat) : 0 ≤ (bytesOf s).getD j 0 ∧ (bytesOf s).getD j 0 ≤ 255 := by
  have := bt_range s (j : Int)
  rw [← rd_bytesOf] at this
  simpa [rd] using this
theorem foldAt_start (s : ByteArray) (j : Nat) : foldAt s 0 j = (bytesOf s).getD j 0 := by simp [foldAt]
theorem FoI_start (s : ByteArray) (w : World) (e : TypeId) : FoI s w 0 (Lib.bytesWorld w e s) := by
  refine ⟨fun j hj => ⟨?_, bytesWorld_free w e s j hj⟩, ?_, by rw [Lib.bytesWorld_size]; omega⟩
  · rw [foldAt_start, Lib.bytesWorld_cell w e s j hj]
    have h' : j < s.data.toList.length := by rw [data_length]; exact hj
    simp [bytesOf, List.getD_eq_getElem?_getD, List.getElem?_eq_getElem h']
  · exact ⟨rfl, rfl, rfl, by rw [Lib.bytesWorld_size]; omega, fun i hi => Lib.bytesWorld_at_old w e s i hi⟩
theorem foldAt_store (s : ByteArray) (k j : Nat) (x : Int) (hx : (bytesOf s).getD k 0 = x) (h : 65 ≤ x ∧ x ≤ 90) : foldAt s (k + 1) j = if j = k then x + 97 - 65 else foldAt s k j := by
  unfold foldAt
  by_cases e : j = k
  · subst e
    rw [if_pos (by omega), if_pos rfl, hx, foldN, if_pos h]; omega
  · rw [if_neg e]
    by_cases e2 : j < k
    · rw [if_pos (by omega), if_pos e2]
    · rw [if_neg (by omega), if_neg e2]
theorem foldAt_keep (s : ByteArray) (k j : Nat) (x : Int) (hx : (bytesOf s).getD k 0 = x) (h : ¬ (65 ≤ x ∧ x ≤ 90)) : foldAt s (k + 1) j = foldAt s k j := by
  unfold foldAt
  by_cases e : j = k
  · subst e
    rw [if_pos (by omega), if_neg (by omega), hx, foldN, if_neg h]
  · by_cases e2 : j < k
    · rw [if_pos (by omega), if_pos e2]
    · rw [if_neg (by omega), if_neg e2]
theorem FoI_store (s : ByteArray) (w : World) (k : Nat) (W : World) (x : Int) (h : FoI s w k W) (hk : k < s.size) (hx : (bytesOf s).getD k 0 = x) (hr : 65 ≤ x ∧ x ≤ 90) : FoI s w (k + 1) (W.setCell ⟨w.heap.size, k, none⟩ (.int .u8 (x + 97 - 65))) := by
  obtain ⟨hc, hB, hl⟩ := h
  refine ⟨fun j hj => ⟨?_, ?_⟩, hB.setCell (Nat.le_refl _) _, by simpa using hl⟩
  · rw [foldAt_store s k j x hx hr]
    by_cases e : j = k
    · subst e
      rw [if_pos rfl]
      exact World.cell?_setCell_same' _ _ _ (by rw [(hc j hj).1]; rfl)
    · rw [if_neg e]
      exact (World.cell?_setCell_other W _ _ _ (by intro hh; injection hh with _ h2 _; omega)).trans (hc j hj).1
  · rw [World.frozen?_setCell]
    exact (hc j hj).2
theorem FoI_keep (s : ByteArray) (w : World) (k : Nat) (W : World) (x : Int) (h : FoI s w k W) (hx : (bytesOf s).getD k 0 = x) (hr : ¬ (65 ≤ x ∧ x ≤ 90)) : FoI s w (k + 1) W := by
  obtain ⟨hc, hB, hl⟩ := h
  exact ⟨fun j hj => by rw [foldAt_keep s k j x hx hr]; exact hc j hj, hB, hl⟩
theorem FoI_done (s : ByteArray) (w : World) (W : World) (h : FoI s w s.size W) : ∀ i, i < s.size → W.cell? ⟨w.heap.size, 0 + i, none⟩ = some (.int .u8 (((bytesOf s).map foldN).getD i 0)) := by
  intro i hi
  rw [Nat.zero_add, (h.1 i hi).1]
  have h2 : i < (bytesOf s).length := by rw [bytesOf_length]; exact hi
  simp [foldAt, hi, List.getD_eq_getElem?_getD, List.getElem?_eq_getElem h2]
set_option maxHeartbeats 1000000 in
theorem text_Fold.calls (a0 : ByteArray) (r : ByteArray) (w : World) (h : text_Fold.f a0 = some r) :
    Calls Try.prog 14 #[.string a0] w fun e w' => e = .returned (.string r) ∧ Below w.heap.size w w' := by
  unfold text_Fold.f at h
  by_cases hs : a0.size ≤ 1099511627776
  · rw [if_pos hs] at h
    obtain rfl := Option.some.inj h
    clear h
    have hkb := fun W => print_bytes (P := Try.prog) 9 47 5 Try.underlying9 Try.underlying47 Try.underlying5 a0 W
    go_enter Try.func14, Try.ntmps14
    go_wp2_with fail
    go_loopw [10] (fun i wr => ∃ (k : Nat), k ≤ a0.size ∧ i = .int .i64 k ∧ FoI a0 w k wr) (fun i _ => a0.size - (intOf i).toNat)
    case atStart => exact ⟨0, Nat.zero_le _, rfl, FoI_start a0 w _⟩
    case round =>
      obtain ⟨k, hk, rfl, hF⟩ := hrel
      have HF := Lib.hid hF; clear hF
      by_cases hlt : k < a0.size
      · obtain ⟨hc, hf⟩ := HF.out.1 k hlt
        have hr := bytesOf_range a0 k
        have e0 : foldAt a0 k k = (bytesOf a0).getD k 0 := by simp [foldAt]
        rw [e0] at hc
        clear e0
        generalize hx : (bytesOf a0).getD k 0 = x at hc hr
        have HX := Lib.hid hx; clear hx
        go_wp2_with fail
        · go_roundw
          case rel => exact ⟨k + 1, by omega, by go_num, FoI_store a0 w k wr x HF.out hlt HX.out ⟨by assumption, by assumption⟩⟩
          case measure => simp [intOf]; omega
        · go_roundw
          case rel => exact ⟨k + 1, by omega, by go_num, FoI_keep a0 w k wr x HF.out HX.out (by omega)⟩
          case measure => simp [intOf]; omega
        · go_roundw
          case rel => exact ⟨k + 1, by omega, by go_num, FoI_keep a0 w k wr x HF.out HX.out (by omega)⟩
          case measure => simp [intOf]; omega
      · have hz : k = a0.size := by omega
        have HZ := Lib.hid hz; clear hz
        have HD := Lib.hid (FoI_done a0 w wr (by rw [← HZ.out]; exact HF.out))
        have hcv := run_convert_bytes_arg (P := Try.prog) wr 47 5 Try.underlying47 Try.underlying5 w.heap.size 0 a0.size (grownCap w a0.size 0 5) ((bytesOf a0).map foldN) (by rw [List.length_map, bytesOf_length]) HD.out 9 Try.underlying9
        go_wp2
        go_ret
        exact ⟨rfl, HF.out.2.1⟩
  · rw [if_neg hs] at h
    exact absurd h (by simp)


end Go.Proofs.Ytkklemjidocngaa.PAll
