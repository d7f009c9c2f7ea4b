-- Written by this session's program hprint.py over the kit's print. Not trusted: Lean checks it.
import Derived.Test.YtkklemjidocngaaPAllx0
import Derived.Test.YtkklemjidocngaaPAllx8
import Derived.Test.YtkklemjidocngaaPAllx11
import Derived.Test.YtkklemjidocngaaShelf
import Derived.Shelf.Strings.Builder1
import Derived.Lib.Hide
import Derived.Outline
namespace Go.Proofs.Ytkklemjidocngaa.PAll
open Go.RowKit Go.Proofs.YtkklemjidocngaaW.PrintWords Go.Proofs.YtkklemjidocngaaW.PrintLast Go.Proofs.YtkklemjidocngaaW.PrintMore
attribute [local go_sem] max2_int min2_int max_two min_two max_three min_three max_four min_four   -- for this text's walks alone
set_option linter.unusedVariables false
set_option linter.unusedSimpArgs false

--HAND text_excerpt.tpl
--HANDIMPORT Derived.Test.YtkklemjidocngaaShelf
--HANDIMPORT Derived.Shelf.Strings.Builder1
--HANDIMPORT Derived.Lib.Hide
--HANDIMPORT Derived.Outline

/-! ### text_Excerpt: function 29 -/
/-! the writers of strings.Builder at this translation -/
open Go.Shelf
def bld240_ren : Go.Shelf.Ren := ⟨fun | 240 => 50 | 276 => 53 | n => n, fun | 0 => 0 | 4 => 4 | 5 => 5 | 9 => 9 | 20 => 20 | 37 => 47 | 70 => 54 | 72 => 56 | 164 => 65 | n => n, fun | n => n⟩
theorem bld240 : Go.Proofs.Lays.n240 Try.prog bld240_ren := {
  mixed := by kernel_rfl
  f240 := Try.func50.trans (congrArg some (by kernel_rfl))
  f276 := Try.func53.trans (congrArg some (by kernel_rfl))
  t0 := Try.underlying0
  a0 := Try.isAgg0
  z0 := Try.sizeOf0
  v0 := Try.zeroValue0
  t4 := Try.underlying4
  a4 := Try.isAgg4
  z4 := Try.sizeOf4
  v4 := Try.zeroValue4
  t9 := Try.underlying9
  a9 := Try.isAgg9
  z9 := Try.sizeOf9
  v9 := Try.zeroValue9
  t20 := Try.underlying20
  a20 := Try.isAgg20
  z20 := Try.sizeOf20
  v20 := Try.zeroValue20
  t70 := Try.underlying54
  a70 := Try.isAgg54
  z70 := Try.sizeOf54
  v70 := Try.zeroValue54
  t72 := Try.underlying56
  a72 := Try.isAgg56
  z72 := Try.sizeOf56
  v72 := Try.zeroValue56
  t164 := Try.underlying65
  a164 := Try.isAgg65
  z164 := Try.sizeOf65
  v164 := Try.zeroValue65 }
def bld166_ren : Go.Shelf.Ren := ⟨fun | 166 => 42 | 240 => 50 | 276 => 53 | n => n, fun | 0 => 0 | 3 => 3 | 4 => 4 | 5 => 5 | 9 => 9 | 20 => 20 | 37 => 47 | 70 => 54 | 72 => 56 | 75 => 58 | 80 => 62 | 164 => 65 | n => n, fun | n => n⟩
theorem bld166 : Go.Proofs.Lays.n166 Try.prog bld166_ren := {
  mixed := by kernel_rfl
  f166 := Try.func42.trans (congrArg some (by kernel_rfl))
  f240 := Try.func50.trans (congrArg some (by kernel_rfl))
  f276 := Try.func53.trans (congrArg some (by kernel_rfl))
  t0 := Try.underlying0
  a0 := Try.isAgg0
  z0 := Try.sizeOf0
  v0 := Try.zeroValue0
  t3 := Try.underlying3
  a3 := Try.isAgg3
  z3 := Try.sizeOf3
  v3 := Try.zeroValue3
  t4 := Try.underlying4
  a4 := Try.isAgg4
  z4 := Try.sizeOf4
  v4 := Try.zeroValue4
  t9 := Try.underlying9
  a9 := Try.isAgg9
  z9 := Try.sizeOf9
  v9 := Try.zeroValue9
  t20 := Try.underlying20
  a20 := Try.isAgg20
  z20 := Try.sizeOf20
  v20 := Try.zeroValue20
  t37 := Try.underlying47
  a37 := Try.isAgg47
  z37 := Try.sizeOf47
  v37 := Try.zeroValue47
  t70 := Try.underlying54
  a70 := Try.isAgg54
  z70 := Try.sizeOf54
  v70 := Try.zeroValue54
  t72 := Try.underlying56
  a72 := Try.isAgg56
  z72 := Try.sizeOf56
  v72 := Try.zeroValue56
  t75 := Try.underlying58
  a75 := Try.isAgg58
  z75 := Try.sizeOf58
  v75 := Try.zeroValue58
  t164 := Try.underlying65
  a164 := Try.isAgg65
  z164 := Try.sizeOf65
  v164 := Try.zeroValue65 }
theorem bldX166 : Builder.Extra Try.prog bld166_ren := {
  sizeBuilder := by kernel_rfl
  liesBuilder := by kernel_rfl
  t5 := Try.underlying5
  a5 := Try.isAgg5
  z5 := Try.sizeOf5
  v5 := Try.zeroValue5
  infoByte := by kernel_rfl
  cellsByte := by kernel_rfl
  sizeByte := by kernel_rfl
  neB5 := by decide }
def bld167_ren : Go.Shelf.Ren := ⟨fun | 167 => 43 | 240 => 50 | 276 => 53 | n => n, fun | 0 => 0 | 4 => 4 | 5 => 5 | 9 => 9 | 20 => 20 | 37 => 47 | 70 => 54 | 72 => 56 | 75 => 58 | 80 => 62 | 164 => 65 | n => n, fun | n => n⟩
theorem bld167 : Go.Proofs.Lays.n167 Try.prog bld167_ren := {
  mixed := by kernel_rfl
  f167 := Try.func43.trans (congrArg some (by kernel_rfl))
  f240 := Try.func50.trans (congrArg some (by kernel_rfl))
  f276 := Try.func53.trans (congrArg some (by kernel_rfl))
  t0 := Try.underlying0
  a0 := Try.isAgg0
  z0 := Try.sizeOf0
  v0 := Try.zeroValue0
  t4 := Try.underlying4
  a4 := Try.isAgg4
  z4 := Try.sizeOf4
  v4 := Try.zeroValue4
  t5 := Try.underlying5
  a5 := Try.isAgg5
  z5 := Try.sizeOf5
  v5 := Try.zeroValue5
  t9 := Try.underlying9
  a9 := Try.isAgg9
  z9 := Try.sizeOf9
  v9 := Try.zeroValue9
  t20 := Try.underlying20
  a20 := Try.isAgg20
  z20 := Try.sizeOf20
  v20 := Try.zeroValue20
  t37 := Try.underlying47
  a37 := Try.isAgg47
  z37 := Try.sizeOf47
  v37 := Try.zeroValue47
  t70 := Try.underlying54
  a70 := Try.isAgg54
  z70 := Try.sizeOf54
  v70 := Try.zeroValue54
  t72 := Try.underlying56
  a72 := Try.isAgg56
  z72 := Try.sizeOf56
  v72 := Try.zeroValue56
  t75 := Try.underlying58
  a75 := Try.isAgg58
  z75 := Try.sizeOf58
  v75 := Try.zeroValue58
  t164 := Try.underlying65
  a164 := Try.isAgg65
  z164 := Try.sizeOf65
  v164 := Try.zeroValue65 }
theorem bldX167 : Builder.Extra Try.prog bld167_ren := {
  sizeBuilder := by kernel_rfl
  liesBuilder := by kernel_rfl
  t5 := Try.underlying5
  a5 := Try.isAgg5
  z5 := Try.sizeOf5
  v5 := Try.zeroValue5
  infoByte := by kernel_rfl
  cellsByte := by kernel_rfl
  sizeByte := by kernel_rfl
  neB5 := by decide }
theorem bld_WriteByte (B b : Nat) (bs : List Value) (c : Int) (w : World) (h : Lib.IsBuilder 56 5 B b bs w) (hlen : bs.length + 1 ≤ 140737488355328) (hBw : B ≤ w.heap.size) :
    Calls Try.prog 43 #[.pointer (some ⟨b, 0, none⟩), .int .u8 c] w fun e w' => e = .returned .nilIface ∧ (Lib.BuilderAt 56 5 B b (.pointer (some ⟨b, 0, none⟩)) (bs ++ [.int .u8 c]) w' ∧ Below B w w') := Any.Builder_WriteByte bld167 bldX167 B b bs c w h hlen hBw
theorem bld_WriteString (B b : Nat) (bs : List Value) (s : ByteArray) (w : World) (h : Lib.IsBuilder 56 5 B b bs w) (hlen : bs.length + s.size ≤ 140737488355328) (hBw : B ≤ w.heap.size) :
    Calls Try.prog 42 #[.pointer (some ⟨b, 0, none⟩), .string s] w fun e w' => e = .returned (.tuple #[.int .i64 s.size, .nilIface]) ∧ (Lib.BuilderAt 56 5 B b (.pointer (some ⟨b, 0, none⟩)) (bs ++ Lib.strCells s) w' ∧ Below B w w') := Any.Builder_WriteString bld166 bldX166 B b bs s w h hlen hBw
/-- the lines' bytes, each with a line feed -/
def exBytes (l : List ByteArray) : List UInt8 := l.flatMap fun s => s.data.toList ++ [10]
/-- the lines from one index to another -/
def exText (l : List ByteArray) (lo hi : Int) : List UInt8 := exBytes ((l.drop lo.toNat).take (hi + 1 - lo).toNat)
def exMid (l : List ByteArray) (a2 fr to_ : Int) : Option ByteArray :=
  if 0 < l.length ∧ 0 ≤ fr ∧ fr ≤ 1099511627777 ∧ 0 ≤ to_ ∧ to_ ≤ 1099511627777 ∧ l.length ≤ 1099511627777 ∧ (exBytes l).length ≤ 70368744177664 then
    some ⟨(exText l (max (fr - min a2 (l.length : Int)) 0) (min (to_ + min a2 (l.length : Int)) ((l.length : Int) - 1))).toArray⟩
  else none
def text_Excerpt.f (k : Nat) (a0 : ByteArray) (a1_0 a1_1 a2 : Int) : Option ByteArray :=
  if a1_0 < 0 ∨ a1_1 < a1_0 ∨ (a0.size : Int) < a1_1 ∨ a2 < 0 ∨ a0.size = 0 then some (⟨#[]⟩ : ByteArray)
  else (text_Lines.f a0).bind fun l => (text_line.f k a0 a1_0).bind fun fr => (if a1_0 < a1_1 then text_line.f k a0 (a1_1 - 1) else some fr).bind fun to_ => exMid l a2 fr to_
/-- some lines from an index on, as bytes -/
def exPre (l : List ByteArray) (lo j : Nat) : List UInt8 := exBytes ((l.drop lo).take j)
theorem exPre_succ (l : List ByteArray) (lo j : Nat) (h : lo + j < l.length) : exPre l lo (j + 1) = exPre l lo j ++ (l.getD (lo + j) ByteArray.empty).data.toList ++ [10] := by
  unfold exPre exBytes
  have h1 : j < (l.drop lo).length := by rw [List.length_drop]; omega
  rw [List.take_succ_eq_append_getElem h1, List.flatMap_append]
  simp [List.getElem_drop, List.getD_eq_getElem?_getD, List.getElem?_eq_getElem h]
theorem exPre_le (l : List ByteArray) (lo j : Nat) : (exPre l lo j).length ≤ (exBytes l).length := by
  have h : l = l.take lo ++ ((l.drop lo).take j ++ (l.drop lo).drop j) := by rw [List.take_append_drop, List.take_append_drop]
  conv => rhs; rw [h]
  unfold exPre exBytes
  rw [List.flatMap_append, List.flatMap_append, List.length_append, List.length_append]
  omega
/-- what the text's builder holds behind j lines -/
def ExI (l : List ByteArray) (lo j : Nat) (w6 W : World) : Prop := Lib.IsBuilder 56 5 w6.heap.size w6.heap.size (Lib.byteCells (exPre l lo j)) W ∧ Below w6.heap.size w6 W
theorem ExI_start (l : List ByteArray) (lo : Nat) (w : World) : ExI l lo 0 w (w.alloc (.cells #[.pointer none, .slice none 0 0] 56)) := by
  refine ⟨.inl ⟨Nat.le_refl _, .slice none 0 0, blk_new _ _, ?_, by simp [Value.ownBlock]⟩, (Below.refl _ _).alloc (Nat.le_refl _) _⟩
  simpa [exPre, exBytes, Lib.byteCells] using own_nil _ _ _ _
theorem ExI_read (l : List ByteArray) (lo j : Nat) (s : ByteArray) (hs : rdOf ByteArray.empty l ((lo + j : Nat) : Int) = s) : l.getD (lo + j) ByteArray.empty = s := by
  rw [← hs]; unfold rdOf; rw [Int.toNat_natCast]
theorem ExI_room (l : List ByteArray) (lo j : Nat) (s : ByteArray) (hs : rdOf ByteArray.empty l ((lo + j : Nat) : Int) = s) (h : lo + j < l.length) (hq : (exBytes l).length ≤ 70368744177664) : (exPre l lo j).length + s.size + 1 ≤ 70368744177664 := by
  have h1 := exPre_le l lo (j + 1)
  rw [exPre_succ l lo j h, ExI_read l lo j s hs] at h1
  simp at h1
  have h2 : s.data.size = s.size := rfl
  omega
theorem ExI_room1 (l : List ByteArray) (lo j : Nat) (s : ByteArray) (hs : rdOf ByteArray.empty l ((lo + j : Nat) : Int) = s) (h : lo + j < l.length) (hq : (exBytes l).length ≤ 70368744177664) : (Lib.byteCells (exPre l lo j)).length + s.size ≤ 140737488355328 := by
  have := ExI_room l lo j s hs h hq
  rw [Lib.byteCells_length]; omega
theorem ExI_room2 (l : List ByteArray) (lo j : Nat) (s : ByteArray) (hs : rdOf ByteArray.empty l ((lo + j : Nat) : Int) = s) (h : lo + j < l.length) (hq : (exBytes l).length ≤ 70368744177664) : (Lib.byteCells (exPre l lo j) ++ Lib.strCells s).length + 1 ≤ 140737488355328 := by
  have := ExI_room l lo j s hs h hq
  rw [List.length_append, Lib.byteCells_length, Lib.strCells_length]; omega
theorem ExI_next (l : List ByteArray) (lo j : Nat) (s : ByteArray) (w6 wr w7 w8 : World) (hE : ExI l lo j w6 wr) (hs : rdOf ByteArray.empty l ((lo + j : Nat) : Int) = s) (h : lo + j < l.length)
    (h8 : Lib.BuilderAt 56 5 w6.heap.size w6.heap.size (.pointer (some ⟨w6.heap.size, 0, none⟩)) (Lib.byteCells (exPre l lo j) ++ Lib.strCells s ++ [.int .u8 10]) w8) (hb7 : Below w6.heap.size wr w7) (hb8 : Below w6.heap.size w7 w8) : ExI l lo (j + 1) w6 w8 := by
  refine ⟨.inr ?_, (Below.trans hE.2 hb7).trans hb8⟩
  rw [exPre_succ l lo j h, ExI_read l lo j s hs, Lib.byteCells_append, Lib.byteCells_append]
  exact h8
theorem text_Excerpt.mono : ∀ a0 a1 a2 a3 k, LeO (text_Excerpt.f k a0 a1 a2 a3) (text_Excerpt.f (k + 1) a0 a1 a2 a3) := by
  intro a0 a1 a2 a3 k
  unfold text_Excerpt.f
  refine LeO.ite (LeO.refl _) (LeO.bind (LeO.refl _) (fun _ => LeO.bind (text_line.mono _ _ _) (fun _ => LeO.bind (LeO.ite (text_line.mono _ _ _) (LeO.refl _)) (fun _ => LeO.refl _))))
theorem ex_nonempty (s : ByteArray) (h : s.toList.isEmpty = false) : s.size ≠ 0 := by
  intro h0
  have h1 : s.toList.length = s.size := by rw [ByteArray.toList_eq, Lib.size_eq]
  rw [h0] at h1
  rw [List.eq_nil_of_length_eq_zero h1] at h
  simp at h
set_option maxHeartbeats 1000000 in
theorem text_Excerpt_none (a0 : ByteArray) (a1_0 a1_1 a2 : Int) (w : World) (h : a1_0 < 0 ∨ a1_1 < a1_0 ∨ (a0.size : Int) < a1_1 ∨ a2 < 0 ∨ a0.size = 0) :
    Calls Try.prog 29 #[.string a0, .agg #[.int .i64 a1_0, .int .i64 a1_1], .int .i64 a2] w fun e w' => e = .returned (.string ⟨#[]⟩) ∧ Below w.heap.size w w' := by
  have H := Lib.hid h; clear h
  have hu := Try.underlying42
  go_enter Try.func29, Try.ntmps29
  go_wp2_with fail
  all_goals first
    | (go_ret; exact ⟨rfl, (Below.refl _ _).alloc (Nat.le_refl _) _⟩)
    | (exfalso; have h1 := H.out; have h2 := ex_nonempty a0 (by simp_all); omega)
set_option maxHeartbeats 4000000 in
set_option maxRecDepth 100000 in
theorem text_Excerpt_lt (k : Nat) (a0 : ByteArray) (a1_0 a1_1 a2 : Int) (l : List ByteArray) (fr to_ : Int) (w : World) (p0 : 0 ≤ a1_0) (p1 : a1_0 < a1_1) (p2 : a1_1 ≤ (a0.size : Int)) (p3 : 0 ≤ a2) (p4 : a0.toList.isEmpty = false)
    (hs : a0.size ≤ 1099511627776) (hl : text_Lines.f a0 = some l) (hfr : text_line.f k a0 a1_0 = some fr) (hto : text_line.f k a0 (a1_1 - 1) = some to_)
    (q0 : 0 ≤ fr) (q1 : fr ≤ 1099511627777) (q2 : 0 ≤ to_) (q3 : to_ ≤ 1099511627777) (q4 : l.length ≤ 1099511627777) (q5 : (exBytes l).length ≤ 70368744177664) (q6 : 0 < l.length) (lo : Nat) (n hi : Int) (hf1 : (a2 ≤ (l.length : Int) ∧ n = a2) ∨ ((l.length : Int) < a2 ∧ n = l.length)) (hf2 : (0 ≤ fr - n ∧ (lo : Int) = fr - n) ∨ (fr - n < 0 ∧ lo = 0)) (hf3 : (to_ + n ≤ (l.length : Int) - 1 ∧ hi = to_ + n) ∨ ((l.length : Int) - 1 < to_ + n ∧ hi = (l.length : Int) - 1)) :
    Calls Try.prog 29 #[.string a0, .agg #[.int .i64 a1_0, .int .i64 a1_1], .int .i64 a2] w fun e w' =>
      e = .returned (.string ⟨(exPre l lo (hi + 1 - (lo : Int)).toNat).toArray⟩) ∧ Below w.heap.size w w' := by
  have HTO := Lib.hid hto; clear hto
  have p1' : a1_0 ≤ a1_1 := by omega
  have HL := Lib.hid hl; clear hl
  have HF := Lib.hid (And.intro hf1 (And.intro hf2 hf3)); clear hf1 hf2 hf3
  have HFR := Lib.hid hfr; clear hfr
  have hu := Try.underlying42
  go_enter Try.func29, Try.ntmps29
  go_wp2_with fail
  refine (text_Lines.calls a0 l _ HL.out).mono ?_
  rintro e w1 ⟨v0, rfl, hR, hB⟩
  obtain ⟨g, c, rfl, _, _, _⟩ := Kd.R_form hR q6
  have HC := Lib.hid (Kd.R_reads' hR).2.2
  have hblk := blk_below (blk_new w (.cells #[.int .i64 a1_0, .int .i64 a1_1] 42)) hB
  have hx0 : w1.cell? ⟨w.heap.size, 0, none⟩ = some (.int .i64 a1_0) := blk_cell hblk 0
  have HR := Lib.hid hR; clear hR
  have HB := Lib.hid hB; clear hB
  have HBk := Lib.hid hblk; clear hblk
  go_wp2_with fail
  refine start_ (n := 10) (S := fun w' => w'.cell? ⟨w.heap.size, 0, none⟩ = some (.int .i64 a1_0)) (ds := []) #[false, false, false, false, false, false, false, false, false, false] (by kernel_rfl) rfl rfl (hx0) (fun hHeld => ?_)
  refine pure_ (i := 0) (N := some 40) (v := ?_) (a' := ?_) #[true, false, false, false, false, false, false, false, false, false] rfl rfl (by kernel_rfl) (fun _ _ _ h => h) (Or.inl ⟨by rfl, ?_⟩) ?_ ?_
  rotate_left
  · intro w'
    go_simp
    with_reducible rfl
  rotate_left
  · simp only [Act.put, List.setIfInBounds_toArray, List.set_cons_zero, List.set_cons_succ, i64_w, i32_w]
    rfl
  refine pure_ (i := 1) (N := some 41) (v := ?_) (a' := ?_) #[true, true, false, false, false, false, false, false, false, false] rfl rfl (by kernel_rfl) (fun _ _ _ h => h) (Or.inl ⟨by rfl, ?_⟩) ?_ ?_
  rotate_left
  · intro w'
    go_simp
    with_reducible rfl
  rotate_left
  · simp only [Act.put, List.setIfInBounds_toArray, List.set_cons_zero, List.set_cons_succ, i64_w, i32_w]
    rfl
  refine pure_ (i := 4) (N := some 44) (v := ?_) (a' := ?_) #[true, true, false, false, true, false, false, false, false, false] rfl rfl (by kernel_rfl) (fun _ _ _ h => h) (Or.inl ⟨by rfl, ?_⟩) ?_ ?_
  rotate_left
  · intro w'
    go_simp
    with_reducible rfl
  rotate_left
  · simp only [Act.put, List.setIfInBounds_toArray, List.set_cons_zero, List.set_cons_succ, i64_w, i32_w]
    rfl
  refine pure_ (i := 5) (N := some 45) (v := ?_) (a' := ?_) #[true, true, false, false, true, true, false, false, false, false] rfl rfl (by kernel_rfl) (fun _ _ _ h => h) (Or.inl ⟨by rfl, ?_⟩) ?_ ?_
  rotate_left
  · intro w'
    go_simp
    with_reducible rfl
  rotate_left
  · simp only [Act.put, List.setIfInBounds_toArray, List.set_cons_zero, List.set_cons_succ, i64_w, i32_w]
    rfl
  refine take_ (i := 2) (N := some 42) (v := ?_) (a' := ?_) #[true, true, true, false, true, true, false, false, false, false] rfl rfl (by kernel_rfl) (fun _ _ _ h => h) (Or.inl ⟨by rfl, ?_⟩) hHeld ?_ ?_
  rotate_left
  · intro w' s0
    go_simp
    with_reducible rfl
  rotate_left
  · simp only [Act.put, List.setIfInBounds_toArray, List.set_cons_zero, List.set_cons_succ, i64_w, i32_w]
    rfl
  refine take_ (i := 6) (N := some 46) (v := ?_) (a' := ?_) #[true, true, true, false, true, true, true, false, false, false] rfl rfl (by kernel_rfl) (fun _ _ _ h => h) (Or.inl ⟨by rfl, ?_⟩) hHeld ?_ ?_
  rotate_left
  · intro w' s0
    go_simp
    with_reducible rfl
  rotate_left
  · simp only [Act.put, List.setIfInBounds_toArray, List.set_cons_zero, List.set_cons_succ, i64_w, i32_w]
    rfl
  refine one_ (i := 3) (N := some 43) #[true, true, true, true, true, true, true, false, false, false] rfl rfl (by kernel_rfl) (by decide) (fun K hK => ?_)
  refine goes_ Try.func41 (by kernel_rfl) rfl #[.string a0, .int .i64 a1_0] (by rfl) rfl rfl (by simp only [List.map_toArray, List.map_cons, List.map_nil]; rfl) ?_
  with_reducible refine (text_line.calls k a0 a1_0 fr _ HFR.out).mono ?_
  rintro e w3 ⟨rfl, hb3⟩
  refine ⟨_, rfl, ?_⟩
  have hbA := below_step (below_drew (Below.refl _ w1)) hb3
  refine hK.out _ _ ((blk_cell (blk_below HBk.out hbA) 0)) (fun hHeld => ?_)
  clear hK K
  refine norm_ (a' := ?_) ?_ ?_
  rotate_left
  · show Act.put _ (some 43) _ = _
    simp only [Act.put, List.setIfInBounds_toArray, List.set_cons_zero, List.set_cons_succ, i64_w, i32_w]
    rfl
  refine one_ (i := 7) (N := some 47) #[true, true, true, true, true, true, true, true, false, false] rfl rfl (by kernel_rfl) (by decide) (fun K hK => ?_)
  refine goes_ Try.func41 (by kernel_rfl) rfl #[.string a0, .int .i64 a1_0] (by rfl) rfl rfl (by simp only [List.map_toArray, List.map_cons, List.map_nil]; rfl) ?_
  with_reducible refine (text_line.calls k a0 a1_0 fr _ HFR.out).mono ?_
  rintro e w4 ⟨rfl, hb4⟩
  refine ⟨_, rfl, ?_⟩
  have hbB := below_step hbA hb4
  refine hK.out _ _ ((blk_cell (blk_below HBk.out hbB) 0)) (fun hHeld => ?_)
  clear hK K
  refine norm_ (a' := ?_) ?_ ?_
  rotate_left
  · show Act.put _ (some 47) _ = _
    simp only [Act.put, List.setIfInBounds_toArray, List.set_cons_zero, List.set_cons_succ, i64_w, i32_w]
    rfl
  refine pure_ (i := 8) (N := some 8) (v := ?_) (a' := ?_) #[true, true, true, true, true, true, true, true, true, false] rfl rfl (by kernel_rfl) (fun _ _ _ h => h) (Or.inl ⟨by rfl, ?_⟩) ?_ ?_
  rotate_left
  · intro w'
    go_simp
    with_reducible rfl
  rotate_left
  · simp only [Act.put, List.setIfInBounds_toArray, List.set_cons_zero, List.set_cons_succ, i64_w, i32_w]
    rfl
  refine pure_ (i := 9) (N := some 9) (v := ?_) (a' := ?_) #[true, true, true, true, true, true, true, true, true, true] rfl rfl (by kernel_rfl) (fun _ _ _ h => h) (Or.inl ⟨by rfl, ?_⟩) ?_ ?_
  rotate_left
  · intro w'
    go_simp
    with_reducible rfl
  rotate_left
  · simp only [Act.put, List.setIfInBounds_toArray, List.set_cons_zero, List.set_cons_succ, i64_w, i32_w]
    rfl
  refine done_ (by kernel_rfl) ?_

  have hx0' : w4.cell? ⟨w.heap.size, 0, none⟩ = some (.int .i64 a1_0) := blk_cell (blk_below HBk.out hbB) 0
  have hx1' : w4.cell? ⟨w.heap.size, 1, none⟩ = some (.int .i64 a1_1) := blk_cell (blk_below HBk.out hbB) 1
  have HBB := Lib.hid hbB; clear hbB
  clear hHeld hbA hb3 hb4 hx0
  go_wp2_with fail
  refine (text_line.calls k a0 (a1_1 - 1) to_ _ HTO.out).mono ?_
  rintro e w6 ⟨rfl, hb6⟩
  have HBC := Lib.hid (below_step HBB.out hb6)
  clear hb6
  go_wp2_with fail
  all_goals
    rcases HF.out.1 with ⟨h1, h2⟩ | ⟨h1, h2⟩
    all_goals first
      | (exfalso; omega)
      | (have h3 := HF.out.2.1; have h4 := HF.out.2.2; subst h2; clear HF; rcases h4 with ⟨h5, h6⟩ | ⟨h5, h6⟩)
  all_goals
    have h7 := Int.le_of_eq h6
    have h8 := Int.le_of_eq h6.symm
    have H3 := Lib.hid h3
    clear h6 h3
    go_loopw [12] (fun i wr => ∃ j : Nat, i = .int .i64 ((lo + j : Nat) : Int) ∧ (j = 0 ∨ ((lo + j : Nat) : Int) ≤ hi + 1) ∧ ExI l lo j w6 wr) (fun i _ => (hi + 1 - intOf i).toNat)
  all_goals
    first
      | (case atStart => exact ⟨0, congrArg (Value.int .i64) (by have h3 := H3.out; omega), .inl rfl, ExI_start _ _ _⟩)
      | skip
  all_goals
    case round =>
      obtain ⟨j, rfl, hj, hE⟩ := hrel
      have HE := Lib.hid hE; clear hE
      by_cases hlt : ((lo + j : Nat) : Int) ≤ hi
      · have hil : lo + j < l.length := by omega
        obtain ⟨ad, had, hcell⟩ := Kd.at_string (Kd.C_below HC.out (below_step HBC.out HE.out.2)) ((lo + j : Nat) : Int) (by omega) (by omega)
        obtain rfl : ad = ⟨g, 0, none⟩ := (Option.some.inj had).symm
        rw [add_plain, Int.toNat_natCast] at hcell
        obtain ⟨s, hs2⟩ : ∃ s, rdOf ByteArray.empty l ((lo + j : Nat) : Int) = s := ⟨_, rfl⟩
        rw [hs2] at hcell
        have HS := Lib.hid hs2; clear hs2
        have hil' : ((lo + j : Nat) : Int) < (l.length : Int) := by omega
        go_wp2_with fail
        all_goals
          refine (bld_WriteString w6.heap.size w6.heap.size (Lib.byteCells (exPre l lo j)) s _ HE.out.1 (ExI_room1 l lo j s HS.out hil q5) HE.out.2.size).mono ?_
          rintro e w7 ⟨rfl, hb7, hB7⟩
          have HB7 := Lib.hid hb7; clear hb7
          have HBB7 := Lib.hid hB7; clear hB7
          go_wp2_with fail
          refine (bld_WriteByte w6.heap.size w6.heap.size (Lib.byteCells (exPre l lo j) ++ Lib.strCells s) 10 _ (.inr HB7.out) (ExI_room2 l lo j s HS.out hil q5) (Nat.le_trans HE.out.2.size HBB7.out.size)).mono ?_
          rintro e w8 ⟨rfl, hb8, hB8⟩
          have HB8 := Lib.hid hb8; clear hb8
          have HBB8 := Lib.hid hB8; clear hB8
          go_wp2_with fail
          go_roundw
          case rel => exact ⟨j + 1, by go_num, by omega, ExI_next l lo j s w6 wr w7 w8 HE.out HS.out hil HB8.out HBB7.out HBB8.out⟩
          case measure => simp [intOf]; omega
      · go_wp2_with fail
        all_goals
          refine (Try.Builder_String_any w6.heap.size w6.heap.size (exPre l lo j) _ HE.out.1 HE.out.2.size).mono ?_
          rintro e w7 ⟨rfl, hB7⟩
          have HBB7 := Lib.hid hB7; clear hB7
          go_wp2_with fail
          go_ret
          have hjj : (hi + 1 - (lo : Int)).toNat = j := by omega
          exact ⟨by rw [hjj]; rfl, below_step (below_step (below_alloc (Below.refl _ _) _) HB.out) (below_step HBC.out (Below.trans HE.out.2 HBB7.out))⟩
set_option maxHeartbeats 4000000 in
set_option maxRecDepth 100000 in
theorem text_Excerpt_eq (k : Nat) (a0 : ByteArray) (a1_0 a1_1 a2 : Int) (l : List ByteArray) (fr : Int) (w : World) (p0 : 0 ≤ a1_0) (p1 : a1_0 = a1_1) (p2 : a1_1 ≤ (a0.size : Int)) (p3 : 0 ≤ a2) (p4 : a0.toList.isEmpty = false)
    (hs : a0.size ≤ 1099511627776) (hl : text_Lines.f a0 = some l) (hfr : text_line.f k a0 a1_0 = some fr)
    (q0 : 0 ≤ fr) (q1 : fr ≤ 1099511627777) (q4 : l.length ≤ 1099511627777) (q5 : (exBytes l).length ≤ 70368744177664) (q6 : 0 < l.length) (lo : Nat) (n hi : Int) (hf1 : (a2 ≤ (l.length : Int) ∧ n = a2) ∨ ((l.length : Int) < a2 ∧ n = l.length)) (hf2 : (0 ≤ fr - n ∧ (lo : Int) = fr - n) ∨ (fr - n < 0 ∧ lo = 0)) (hf3 : (fr + n ≤ (l.length : Int) - 1 ∧ hi = fr + n) ∨ ((l.length : Int) - 1 < fr + n ∧ hi = (l.length : Int) - 1)) :
    Calls Try.prog 29 #[.string a0, .agg #[.int .i64 a1_0, .int .i64 a1_1], .int .i64 a2] w fun e w' =>
      e = .returned (.string ⟨(exPre l lo (hi + 1 - (lo : Int)).toNat).toArray⟩) ∧ Below w.heap.size w w' := by
  obtain rfl := p1
  have HL := Lib.hid hl; clear hl
  have HF := Lib.hid (And.intro hf1 (And.intro hf2 hf3)); clear hf1 hf2 hf3
  have HFR := Lib.hid hfr; clear hfr
  have hu := Try.underlying42
  go_enter Try.func29, Try.ntmps29
  go_wp2_with fail
  refine (text_Lines.calls a0 l _ HL.out).mono ?_
  rintro e w1 ⟨v0, rfl, hR, hB⟩
  obtain ⟨g, c, rfl, _, _, _⟩ := Kd.R_form hR q6
  have HC := Lib.hid (Kd.R_reads' hR).2.2
  have hblk := blk_below (blk_new w (.cells #[.int .i64 a1_0, .int .i64 a1_0] 42)) hB
  have hx0 : w1.cell? ⟨w.heap.size, 0, none⟩ = some (.int .i64 a1_0) := blk_cell hblk 0
  have HR := Lib.hid hR; clear hR
  have HB := Lib.hid hB; clear hB
  have HBk := Lib.hid hblk; clear hblk
  go_wp2_with fail
  refine start_ (n := 10) (S := fun w' => w'.cell? ⟨w.heap.size, 0, none⟩ = some (.int .i64 a1_0)) (ds := []) #[false, false, false, false, false, false, false, false, false, false] (by kernel_rfl) rfl rfl (hx0) (fun hHeld => ?_)
  refine pure_ (i := 0) (N := some 40) (v := ?_) (a' := ?_) #[true, false, false, false, false, false, false, false, false, false] rfl rfl (by kernel_rfl) (fun _ _ _ h => h) (Or.inl ⟨by rfl, ?_⟩) ?_ ?_
  rotate_left
  · intro w'
    go_simp
    with_reducible rfl
  rotate_left
  · simp only [Act.put, List.setIfInBounds_toArray, List.set_cons_zero, List.set_cons_succ, i64_w, i32_w]
    rfl
  refine pure_ (i := 1) (N := some 41) (v := ?_) (a' := ?_) #[true, true, false, false, false, false, false, false, false, false] rfl rfl (by kernel_rfl) (fun _ _ _ h => h) (Or.inl ⟨by rfl, ?_⟩) ?_ ?_
  rotate_left
  · intro w'
    go_simp
    with_reducible rfl
  rotate_left
  · simp only [Act.put, List.setIfInBounds_toArray, List.set_cons_zero, List.set_cons_succ, i64_w, i32_w]
    rfl
  refine pure_ (i := 4) (N := some 44) (v := ?_) (a' := ?_) #[true, true, false, false, true, false, false, false, false, false] rfl rfl (by kernel_rfl) (fun _ _ _ h => h) (Or.inl ⟨by rfl, ?_⟩) ?_ ?_
  rotate_left
  · intro w'
    go_simp
    with_reducible rfl
  rotate_left
  · simp only [Act.put, List.setIfInBounds_toArray, List.set_cons_zero, List.set_cons_succ, i64_w, i32_w]
    rfl
  refine pure_ (i := 5) (N := some 45) (v := ?_) (a' := ?_) #[true, true, false, false, true, true, false, false, false, false] rfl rfl (by kernel_rfl) (fun _ _ _ h => h) (Or.inl ⟨by rfl, ?_⟩) ?_ ?_
  rotate_left
  · intro w'
    go_simp
    with_reducible rfl
  rotate_left
  · simp only [Act.put, List.setIfInBounds_toArray, List.set_cons_zero, List.set_cons_succ, i64_w, i32_w]
    rfl
  refine take_ (i := 2) (N := some 42) (v := ?_) (a' := ?_) #[true, true, true, false, true, true, false, false, false, false] rfl rfl (by kernel_rfl) (fun _ _ _ h => h) (Or.inl ⟨by rfl, ?_⟩) hHeld ?_ ?_
  rotate_left
  · intro w' s0
    go_simp
    with_reducible rfl
  rotate_left
  · simp only [Act.put, List.setIfInBounds_toArray, List.set_cons_zero, List.set_cons_succ, i64_w, i32_w]
    rfl
  refine take_ (i := 6) (N := some 46) (v := ?_) (a' := ?_) #[true, true, true, false, true, true, true, false, false, false] rfl rfl (by kernel_rfl) (fun _ _ _ h => h) (Or.inl ⟨by rfl, ?_⟩) hHeld ?_ ?_
  rotate_left
  · intro w' s0
    go_simp
    with_reducible rfl
  rotate_left
  · simp only [Act.put, List.setIfInBounds_toArray, List.set_cons_zero, List.set_cons_succ, i64_w, i32_w]
    rfl
  refine one_ (i := 3) (N := some 43) #[true, true, true, true, true, true, true, false, false, false] rfl rfl (by kernel_rfl) (by decide) (fun K hK => ?_)
  refine goes_ Try.func41 (by kernel_rfl) rfl #[.string a0, .int .i64 a1_0] (by rfl) rfl rfl (by simp only [List.map_toArray, List.map_cons, List.map_nil]; rfl) ?_
  with_reducible refine (text_line.calls k a0 a1_0 fr _ HFR.out).mono ?_
  rintro e w3 ⟨rfl, hb3⟩
  refine ⟨_, rfl, ?_⟩
  have hbA := below_step (below_drew (Below.refl _ w1)) hb3
  refine hK.out _ _ ((blk_cell (blk_below HBk.out hbA) 0)) (fun hHeld => ?_)
  clear hK K
  refine norm_ (a' := ?_) ?_ ?_
  rotate_left
  · show Act.put _ (some 43) _ = _
    simp only [Act.put, List.setIfInBounds_toArray, List.set_cons_zero, List.set_cons_succ, i64_w, i32_w]
    rfl
  refine one_ (i := 7) (N := some 47) #[true, true, true, true, true, true, true, true, false, false] rfl rfl (by kernel_rfl) (by decide) (fun K hK => ?_)
  refine goes_ Try.func41 (by kernel_rfl) rfl #[.string a0, .int .i64 a1_0] (by rfl) rfl rfl (by simp only [List.map_toArray, List.map_cons, List.map_nil]; rfl) ?_
  with_reducible refine (text_line.calls k a0 a1_0 fr _ HFR.out).mono ?_
  rintro e w4 ⟨rfl, hb4⟩
  refine ⟨_, rfl, ?_⟩
  have hbB := below_step hbA hb4
  refine hK.out _ _ ((blk_cell (blk_below HBk.out hbB) 0)) (fun hHeld => ?_)
  clear hK K
  refine norm_ (a' := ?_) ?_ ?_
  rotate_left
  · show Act.put _ (some 47) _ = _
    simp only [Act.put, List.setIfInBounds_toArray, List.set_cons_zero, List.set_cons_succ, i64_w, i32_w]
    rfl
  refine pure_ (i := 8) (N := some 8) (v := ?_) (a' := ?_) #[true, true, true, true, true, true, true, true, true, false] rfl rfl (by kernel_rfl) (fun _ _ _ h => h) (Or.inl ⟨by rfl, ?_⟩) ?_ ?_
  rotate_left
  · intro w'
    go_simp
    with_reducible rfl
  rotate_left
  · simp only [Act.put, List.setIfInBounds_toArray, List.set_cons_zero, List.set_cons_succ, i64_w, i32_w]
    rfl
  refine pure_ (i := 9) (N := some 9) (v := ?_) (a' := ?_) #[true, true, true, true, true, true, true, true, true, true] rfl rfl (by kernel_rfl) (fun _ _ _ h => h) (Or.inl ⟨by rfl, ?_⟩) ?_ ?_
  rotate_left
  · intro w'
    go_simp
    with_reducible rfl
  rotate_left
  · simp only [Act.put, List.setIfInBounds_toArray, List.set_cons_zero, List.set_cons_succ, i64_w, i32_w]
    rfl
  refine done_ (by kernel_rfl) ?_

  have hx0' : w4.cell? ⟨w.heap.size, 0, none⟩ = some (.int .i64 a1_0) := blk_cell (blk_below HBk.out hbB) 0
  have hx1' : w4.cell? ⟨w.heap.size, 1, none⟩ = some (.int .i64 a1_0) := blk_cell (blk_below HBk.out hbB) 1
  have HBB := Lib.hid hbB; clear hbB
  clear hHeld hbA hb3 hb4 hx0
  have HBC := HBB
  go_wp2_with fail
  all_goals
    rcases HF.out.1 with ⟨h1, h2⟩ | ⟨h1, h2⟩
    all_goals first
      | (exfalso; omega)
      | (have h3 := HF.out.2.1; have h4 := HF.out.2.2; subst h2; clear HF; rcases h4 with ⟨h5, h6⟩ | ⟨h5, h6⟩)
  all_goals
    have h7 := Int.le_of_eq h6
    have h8 := Int.le_of_eq h6.symm
    have H3 := Lib.hid h3
    clear h6 h3
    go_loopw [12] (fun i wr => ∃ j : Nat, i = .int .i64 ((lo + j : Nat) : Int) ∧ (j = 0 ∨ ((lo + j : Nat) : Int) ≤ hi + 1) ∧ ExI l lo j w4 wr) (fun i _ => (hi + 1 - intOf i).toNat)
  all_goals
    first
      | (case atStart => exact ⟨0, congrArg (Value.int .i64) (by have h3 := H3.out; omega), .inl rfl, ExI_start _ _ _⟩)
      | skip
  all_goals
    case round =>
      obtain ⟨j, rfl, hj, hE⟩ := hrel
      have HE := Lib.hid hE; clear hE
      by_cases hlt : ((lo + j : Nat) : Int) ≤ hi
      · have hil : lo + j < l.length := by omega
        obtain ⟨ad, had, hcell⟩ := Kd.at_string (Kd.C_below HC.out (below_step HBC.out HE.out.2)) ((lo + j : Nat) : Int) (by omega) (by omega)
        obtain rfl : ad = ⟨g, 0, none⟩ := (Option.some.inj had).symm
        rw [add_plain, Int.toNat_natCast] at hcell
        obtain ⟨s, hs2⟩ : ∃ s, rdOf ByteArray.empty l ((lo + j : Nat) : Int) = s := ⟨_, rfl⟩
        rw [hs2] at hcell
        have HS := Lib.hid hs2; clear hs2
        have hil' : ((lo + j : Nat) : Int) < (l.length : Int) := by omega
        go_wp2_with fail
        all_goals
          refine (bld_WriteString w4.heap.size w4.heap.size (Lib.byteCells (exPre l lo j)) s _ HE.out.1 (ExI_room1 l lo j s HS.out hil q5) HE.out.2.size).mono ?_
          rintro e w7 ⟨rfl, hb7, hB7⟩
          have HB7 := Lib.hid hb7; clear hb7
          have HBB7 := Lib.hid hB7; clear hB7
          go_wp2_with fail
          refine (bld_WriteByte w4.heap.size w4.heap.size (Lib.byteCells (exPre l lo j) ++ Lib.strCells s) 10 _ (.inr HB7.out) (ExI_room2 l lo j s HS.out hil q5) (Nat.le_trans HE.out.2.size HBB7.out.size)).mono ?_
          rintro e w8 ⟨rfl, hb8, hB8⟩
          have HB8 := Lib.hid hb8; clear hb8
          have HBB8 := Lib.hid hB8; clear hB8
          go_wp2_with fail
          go_roundw
          case rel => exact ⟨j + 1, by go_num, by omega, ExI_next l lo j s w4 wr w7 w8 HE.out HS.out hil HB8.out HBB7.out HBB8.out⟩
          case measure => simp [intOf]; omega
      · go_wp2_with fail
        all_goals
          refine (Try.Builder_String_any w4.heap.size w4.heap.size (exPre l lo j) _ HE.out.1 HE.out.2.size).mono ?_
          rintro e w7 ⟨rfl, hB7⟩
          have HBB7 := Lib.hid hB7; clear hB7
          go_wp2_with fail
          go_ret
          have hjj : (hi + 1 - (lo : Int)).toNat = j := by omega
          exact ⟨by rw [hjj]; rfl, below_step (below_step (below_alloc (Below.refl _ _) _) HB.out) (below_step HBC.out (Below.trans HE.out.2 HBB7.out))⟩
theorem text_Excerpt.calls (k : Nat) (a0 : ByteArray) (a1_0 : Int) (a1_1 : Int) (a2 : Int) (r : ByteArray) (w : World) (h : text_Excerpt.f k a0 a1_0 a1_1 a2 = some r) :
    Calls Try.prog 29 #[.string a0, .agg #[.int .i64 a1_0, .int .i64 a1_1], .int .i64 a2] w fun e w' => e = .returned (.string r) ∧ Below w.heap.size w w' := by
  unfold text_Excerpt.f at h
  by_cases hc : a1_0 < 0 ∨ a1_1 < a1_0 ∨ (a0.size : Int) < a1_1 ∨ a2 < 0 ∨ a0.size = 0
  · rw [if_pos hc] at h
    obtain rfl := Option.some.inj h
    exact text_Excerpt_none a0 a1_0 a1_1 a2 w hc
  · rw [if_neg hc] at h
    obtain ⟨l, hl, h⟩ := Option.bind_eq_some_iff.mp h
    obtain ⟨fr, hfr, h⟩ := Option.bind_eq_some_iff.mp h
    obtain ⟨to_, hto, h⟩ := Option.bind_eq_some_iff.mp h
    unfold exMid at h
    have hs : a0.size ≤ 1099511627776 := by
      unfold text_Lines.f at hl
      by_cases hs : a0.size ≤ 1099511627776
      · exact hs
      · rw [if_neg hs] at hl; simp at hl
    have p4 : a0.toList.isEmpty = false := by
      have h1 : a0.toList.length = a0.size := by rw [ByteArray.toList_eq, Lib.size_eq]
      cases h2 : a0.toList with
      | nil => rw [h2] at h1; simp at h1; omega
      | cons x y => rfl
    by_cases hq : 0 < l.length ∧ 0 ≤ fr ∧ fr ≤ 1099511627777 ∧ 0 ≤ to_ ∧ to_ ≤ 1099511627777 ∧ l.length ≤ 1099511627777 ∧ (exBytes l).length ≤ 70368744177664
    · rw [if_pos hq] at h
      obtain rfl := Option.some.inj h
      obtain ⟨q6, q0, q1, q2, q3, q4, q5⟩ := hq
      have hf1 : (a2 ≤ (l.length : Int) ∧ min a2 (l.length : Int) = a2) ∨ ((l.length : Int) < a2 ∧ min a2 (l.length : Int) = l.length) := by omega
      obtain ⟨n, hn⟩ : ∃ n, min a2 (l.length : Int) = n := ⟨_, rfl⟩
      rw [hn] at hf1 ⊢
      have hz : 0 ≤ max (fr - n) 0 := by omega
      obtain ⟨lo, hlo⟩ := Int.eq_ofNat_of_zero_le hz
      have hf2 : (0 ≤ fr - n ∧ (lo : Int) = fr - n) ∨ (fr - n < 0 ∧ lo = 0) := by omega
      have hf3 : (to_ + n ≤ (l.length : Int) - 1 ∧ min (to_ + n) ((l.length : Int) - 1) = to_ + n) ∨ ((l.length : Int) - 1 < to_ + n ∧ min (to_ + n) ((l.length : Int) - 1) = (l.length : Int) - 1) := by omega
      obtain ⟨hi, hhi⟩ : ∃ x, min (to_ + n) ((l.length : Int) - 1) = x := ⟨_, rfl⟩
      rw [hhi] at hf3 ⊢
      have hx : exText l (max (fr - n) 0) hi = exPre l lo (hi + 1 - (lo : Int)).toNat := by
        rw [hlo]; unfold exText exPre; rw [Int.toNat_natCast]
      rw [hx]
      by_cases hlt : a1_0 < a1_1
      · rw [if_pos hlt] at hto
        exact text_Excerpt_lt k a0 a1_0 a1_1 a2 l fr to_ w (by omega) hlt (by omega) (by omega) p4 hs hl hfr hto q0 q1 q2 q3 q4 q5 q6 lo n hi hf1 hf2 hf3
      · rw [if_neg hlt] at hto
        obtain rfl := Option.some.inj hto
        exact text_Excerpt_eq k a0 a1_0 a1_1 a2 l fr w (by omega) (by omega) (by omega) (by omega) p4 hs hl hfr q0 q1 q4 q5 q6 lo n hi hf1 hf2 hf3
    · rw [if_neg hq] at h
      exact absurd h (by simp)


end Go.Proofs.Ytkklemjidocngaa.PAll
