-- Written by this session's program hprint.py over the kit's print. Not trusted: Lean checks it.
import Derived.Test.YtkklemjidocngaaPAllx0
import Derived.Test.YtkklemjidocngaaShelf
import Derived.OneCell
import Derived.Lib.Hide
import Derived.Outline
import Derived.Deep.RegionHeld3
import Derived.Deep.AppendLies
import Derived.StillTailTactics
import Derived.WalkLawsBesides
import Derived.WalkSpells
namespace Go.Proofs.Ytkklemjidocngaa.PAll
open Go.RowKit Go.Proofs.YtkklemjidocngaaW.PrintWords Go.Proofs.YtkklemjidocngaaW.PrintLast Go.Proofs.YtkklemjidocngaaW.PrintMore
attribute [local go_sem] max2_int min2_int max_two min_two max_three min_three max_four min_four   -- for this text's walks alone
set_option linter.unusedVariables false
set_option linter.unusedSimpArgs false

--HAND text_lines.tpl
--HANDIMPORT Derived.Test.YtkklemjidocngaaShelf
--HANDIMPORT Derived.OneCell
--HANDIMPORT Derived.Lib.Hide
--HANDIMPORT Derived.Outline
--HANDIMPORT Derived.Deep.RegionHeld3
--HANDIMPORT Derived.Deep.AppendLies
--HANDIMPORT Derived.StillTailTactics
--HANDIMPORT Derived.WalkLawsBesides
--HANDIMPORT Derived.WalkSpells

/-! ### text_Starts: function 20 -/
/-- the lines of a text from an offset on: where each begins, and where it ends, its line feed not counted -/
def lnsGo : List UInt8 → Nat → Nat → List (Nat × Nat)
  | [], st, p => if st < p then [(st, p)] else []
  | c :: r, st, p => if c = 10 then (st, p) :: lnsGo r (p + 1) (p + 1) else lnsGo r st (p + 1)
def lns (s : ByteArray) : List (Nat × Nat) := lnsGo s.data.toList 0 0
theorem lnsGo_nil (st p : Nat) : lnsGo [] st p = if st < p then [(st, p)] else [] := rfl
theorem lnsGo_cons (c : UInt8) (r : List UInt8) (st p : Nat) : lnsGo (c :: r) st p = if c = 10 then (st, p) :: lnsGo r (p + 1) (p + 1) else lnsGo r st (p + 1) := rfl
theorem ix_nil : Lib.indexByte [] 10 = -1 := rfl
theorem ix_cons (c : UInt8) (r : List UInt8) : Lib.indexByte (c :: r) 10 = if c = 10 then 0 else if Lib.indexByte r 10 = -1 then -1 else Lib.indexByte r 10 + 1 := by
  conv => lhs; unfold Lib.indexByte
  simp only [beq_iff_eq]
theorem lnsGo_ix (l : List UInt8) : ∀ (st p : Nat), (Lib.indexByte l 10 = -1 → lnsGo l st p = if st < p + l.length then [(st, p + l.length)] else []) ∧
    (∀ e : Nat, Lib.indexByte l 10 = (e : Int) → e < l.length ∧ lnsGo l st p = (st, p + e) :: lnsGo (l.drop (e + 1)) (p + e + 1) (p + e + 1)) := by
  induction l with
  | nil => intro st p; exact ⟨fun _ => by simp [lnsGo_nil], fun e h => by rw [ix_nil] at h; omega⟩
  | cons c r ih =>
    intro st p
    have hge := Lib.indexByte_ge r 10
    rw [ix_cons, lnsGo_cons]
    by_cases hc : c = 10
    · rw [if_pos hc, if_pos hc]
      refine ⟨fun h => by omega, fun e h => ?_⟩
      have h0 : e = 0 := by omega
      subst h0
      exact ⟨by simp, rfl⟩
    · rw [if_neg hc, if_neg hc]
      obtain ⟨i1, i2⟩ := ih st (p + 1)
      by_cases hm : Lib.indexByte r 10 = -1
      · rw [if_pos hm]
        refine ⟨fun _ => ?_, fun e h => by omega⟩
        rw [i1 hm, List.length_cons, show p + 1 + r.length = p + (r.length + 1) by omega]
      · rw [if_neg hm]
        refine ⟨fun h => by omega, fun e h => ?_⟩
        obtain ⟨e', rfl⟩ : ∃ e', e = e' + 1 := ⟨e - 1, by omega⟩
        obtain ⟨j1, j2⟩ := i2 e' (by omega)
        exact ⟨by rw [List.length_cons]; omega, by rw [j2, List.drop_succ_cons, show p + 1 + e' = p + (e' + 1) by omega]⟩
theorem lns_bound (l : List UInt8) : ∀ (st p : Nat), st ≤ p → ∀ q ∈ lnsGo l st p, st ≤ q.1 ∧ q.1 ≤ q.2 ∧ q.2 ≤ p + l.length := by
  induction l with
  | nil =>
    intro st p h q hq
    unfold lnsGo at hq
    split at hq
    · simp at hq; subst hq; simp; omega
    · simp at hq
  | cons c r ih =>
    intro st p h q hq
    unfold lnsGo at hq
    split at hq
    · rcases List.mem_cons.1 hq with rfl | hq
      · simp; omega
      · have := ih (p + 1) (p + 1) (Nat.le_refl _) q hq
        simp; omega
    · have := ih st (p + 1) (by omega) q hq
      simp; omega
theorem lns_length (l : List UInt8) : ∀ (st p : Nat), (lnsGo l st p).length ≤ l.length + 1 := by
  induction l with
  | nil => intro st p; unfold lnsGo; split <;> simp
  | cons c r ih =>
    intro st p
    unfold lnsGo
    split
    · simpa using ih (p + 1) (p + 1)
    · have := ih st (p + 1); simp; omega
theorem lns_step (s : ByteArray) (a : Nat) (ha : a < s.size) : ∃ x : Int, Lib.indexByte (s.extract a s.size).data.toList (Int.toNat 10).toUInt8 = x ∧
    ((x = -1 ∧ lnsGo (s.data.toList.drop a) a a = [(a, s.size)]) ∨ ∃ e : Nat, x = (e : Int) ∧ a + e < s.size ∧ lnsGo (s.data.toList.drop a) a a = (a, a + e) :: lnsGo (s.data.toList.drop (a + e + 1)) (a + e + 1) (a + e + 1)) := by
  have hl : (s.data.toList.drop a).length = s.size - a := by rw [List.length_drop, data_length]
  have h0 : (s.extract a s.size).data.toList = List.drop a s.data.toList := by
    rw [Lib.extract_data, List.take_of_length_le (by omega)]
  rw [h0, show (Int.toNat 10).toUInt8 = 10 from rfl]
  obtain ⟨h1, h2⟩ := lnsGo_ix (s.data.toList.drop a) a a
  have hge := Lib.indexByte_ge (s.data.toList.drop a) 10
  refine ⟨_, rfl, ?_⟩
  by_cases hx : Lib.indexByte (s.data.toList.drop a) 10 = -1
  · refine .inl ⟨hx, ?_⟩
    rw [h1 hx, if_pos (by omega), hl, show a + (s.size - a) = s.size by omega]
  · obtain ⟨e, he⟩ : ∃ e : Nat, Lib.indexByte (s.data.toList.drop a) 10 = (e : Int) := ⟨(Lib.indexByte (s.data.toList.drop a) 10).toNat, by omega⟩
    obtain ⟨h3, h4⟩ := h2 e he
    refine .inr ⟨e, he, by omega, ?_⟩
    rw [h4, List.drop_drop]
    congr 2
/-- what each line's call keeps -/
def EachI (s : ByteArray) (I : List (Nat × Nat) → World → Prop) (done : List (Nat × Nat)) (a : Nat) (W : World) : Prop := lns s = done ++ lnsGo (s.data.toList.drop a) a a ∧ I done W
set_option maxHeartbeats 1000000 in
theorem text_each_calls (g : Nat) (lb : Array Value) (eg : ∀ args w, (callFunc g args).run Try.prog w = .ok (.enter g args) w) (s : ByteArray) (hs : s.size ≤ 1099511627776) (w : World) (I : List (Nat × Nat) → World → Prop)
    (hI : ∀ done (a b : Nat) rest W, I done W → lns s = done ++ (a, b) :: rest → Calls Try.prog g (#[.int .i64 a, .int .i64 b] ++ lb) W fun e W' => e = .returned (.tuple #[]) ∧ I (done ++ [(a, b)]) W') (h0 : I [] w) :
    Calls Try.prog 33 #[.string s, .func (.func g) #[] lb] w fun e w' => e = .returned (.tuple #[]) ∧ I (lns s) w' := by
  have H0 := Lib.hid h0; clear h0
  have HI := Lib.hid hI; clear hI
  go_enter Try.func33, Try.ntmps33
  go_wp2
  go_loopw [4] (fun i wr => ∃ (a : Nat) (done : List (Nat × Nat)), a ≤ s.size ∧ i = .int .i64 a ∧ EachI s I done a wr) (fun i _ => s.size - (intOf i).toNat)
  case atStart => exact ⟨0, [], Nat.zero_le _, rfl, rfl, H0.out⟩
  case round =>
    obtain ⟨a, done, ha, rfl, hE⟩ := hrel
    have HE := Lib.hid hE; clear hE
    by_cases hlt : a < s.size
    · obtain ⟨x, hx, hor⟩ := lns_step s a hlt
      have HX := Lib.hid hx; clear hx
      go_wp2_with fail
      refine (Try.strings_IndexByte _ _ _).mono ?_
      rintro e w1 ⟨rfl, rfl⟩
      rw [HX.out]
      rcases hor with ⟨rfl, h1⟩ | ⟨e, rfl, he, h1⟩
      · have H1 := Lib.hid h1; clear h1
        go_wp2_with fail
        refine (HI.out done a s.size [] w1 HE.out.2 (by rw [← H1.out]; exact HE.out.1)).mono ?_
        rintro e w2 ⟨rfl, hI1⟩
        have HI1 := Lib.hid hI1; clear hI1
        go_wp2_with fail
        refine bodyPost_ret (results_none rfl _ _ _) rfl ?_
        exact ⟨rfl, by rw [HE.out.1, H1.out]; exact HI1.out⟩
      · have H1 := Lib.hid h1; clear h1
        go_wp2_with fail
        rw [show ((a : Int) + (e : Int)) = ((a + e : Nat) : Int) from rfl]
        refine (HI.out done a (a + e) _ w1 HE.out.2 (by rw [← H1.out]; exact HE.out.1)).mono ?_
        rintro e' w2 ⟨rfl, hI1⟩
        have HI1 := Lib.hid hI1; clear hI1
        go_wp2_with fail
        go_roundw
        case rel => exact ⟨a + e + 1, done ++ [(a, a + e)], by omega, by go_num, ⟨by rw [HE.out.1, H1.out]; simp, HI1.out⟩⟩
        case measure => simp [intOf]; omega
    · have hz : a = s.size := by omega
      have HZ := Lib.hid hz; clear hz
      go_wp2_with fail
      go_end0
      have h2 := HE.out
      rw [EachI, HZ.out, List.drop_of_length_le (by rw [data_length]; exact Nat.le_refl _), lnsGo_nil, if_neg (by omega), List.append_nil] at h2
      exact ⟨rfl, by rw [h2.1]; exact h2.2⟩

/-- what the list of the starts is behind some lines -/
def StI (w : World) (done : List (Nat × Nat)) (W : World) : Prop :=
  ∃ v, W.heap[w.heap.size]? = some (.cells #[v] 29 (0, 0)) ∧ Kd.R (Kd.int .i64) 3 W w.heap.size (fun _ => True) v (done.map fun p => (p.1 : Int)) ∧ Below w.heap.size w W ∧ done.length ≤ 1099511627777
set_option maxHeartbeats 1000000 in
theorem text_Starts1_calls (w0 : World) (done : List (Nat × Nat)) (a b : Nat) (w : World) (h : StI w0 done w) (hl : done.length ≤ 1099511627776) :
    Calls Try.prog 36 #[.int .i64 a, .int .i64 b, .pointer (some ⟨w0.heap.size, 0, none⟩)] w fun e W => e = .returned (.tuple #[]) ∧ StI w0 (done ++ [(a, b)]) W := by
  obtain ⟨v, hb, hR, hB, _⟩ := h
  have hc := cell_of_one hb
  have HR := Lib.hid hR; clear hR
  have HBk := Lib.hid hb; clear hb
  have HB := Lib.hid hB; clear hB
  have hz : w0.heap.size < w.heap.size := lt_of_block HBk.out
  go_enter Try.func36, Try.ntmps36
  go_wp2_with (at_builtin; refine Kd.R_append (Kd.int .i64) (w0 := w0) w0.heap.size rfl _ _ 29 3 (.int .i64 0) 8 rfl Try.underlying29 info3 rfl (by decide) (by omega) v (done.map fun p => (p.1 : Int)) a [.int .i64 a] (fun _ => True) (fun _ => False) rfl rfl ?aP (fun _ hk => hk.elim) ?aF ?aO ?aB ?aS ?aL ?_; (case aP => exact rfl); (case aF => exact (fun _ _ => trivial)); (case aO => exact HR.out); (case aB => exact HB.out); (case aS => exact below_size HB.out); (case aL => (rw [List.length_map]; omega)); intro v1 w1 ho hb1 hg _; obtain ⟨A1, c1, rfl⟩ := Kd.R_slice ho; have hb2 := blk_grown HBk.out hg (Kd.R_ne HR.out HBk.out (by decide)); have hc2 := cell_of_one hb2; have hf2 := free_of_one hb2; have HO := Lib.hid ho; clear ho; have HB1 := Lib.hid hb1; clear hb1; have HBk2 := Lib.hid hb2; clear hb2; clear hg hc)
  go_end0
  exact ⟨rfl, _, one_setCell HBk2.out, by have h3 := Kd.R_set HO.out HBk2.out (by decide) 0 (.slice A1 (done.length + 1) c1); simpa using h3, HB1.out.setCell (Nat.le_refl _) _, by simp; omega⟩
theorem lns_len (s : ByteArray) (hs : s.size ≤ 1099511627776) : (lns s).length ≤ 1099511627777 := by
  have := lns_length s.data.toList 0 0
  rw [data_length] at this
  unfold lns; omega
def text_Starts.f (a0 : ByteArray) : Option (List Int) := if a0.size ≤ 1099511627776 then some ((lns a0).map fun p => (p.1 : Int)) else none
set_option maxHeartbeats 1000000 in
theorem text_Starts.calls (a0 : ByteArray) (r : List Int) (w : World) (h : text_Starts.f a0 = some r) :
    Calls Try.prog 20 #[.string a0] w fun e w' => ∃ v0_ : Value, e = .returned (v0_) ∧ Kd.R (Kd.int .i64) 3 w' w.heap.size (fun _ => True) v0_ r ∧ Below w.heap.size w w' := by
  unfold text_Starts.f at h
  by_cases hs : a0.size ≤ 1099511627776
  · rw [if_pos hs] at h
    obtain rfl := Option.some.inj h
    clear h
    have E1 := enters_of Try.func36 (by kernel_rfl) rfl
    go_enter Try.func20, Try.ntmps20
    go_wp2_with fail
    refine (text_each_calls 36 #[.pointer (some ⟨w.heap.size, 0, none⟩)] E1 a0 hs _ (StI w) ?hI ?h0).mono ?_
    case hI =>
      intro done a b rest W hd he
      have hn := lns_len a0 hs
      rw [he] at hn
      exact text_Starts1_calls w done a b W hd (by simp at hn; omega)
    case h0 => exact ⟨.slice none 0 0, blk_new _ _, Kd.R_nil _ _ _ _ _, (Below.refl _ _).alloc (Nat.le_refl _) _, by simp⟩
    rintro e w1 ⟨rfl, v, hb, hR, hB, _⟩
    have hc := cell_of_one hb
    have HR := Lib.hid hR; clear hR
    have HB := Lib.hid hB; clear hB hb
    go_wp2
    go_ret
    exact ⟨v, rfl, HR.out, HB.out⟩
  · rw [if_neg hs] at h
    exact absurd h (by simp)

/-- what the list of the lines is behind some of them -/
def LiI (s : ByteArray) (w : World) (done : List (Nat × Nat)) (W : World) : Prop :=
  W.heap[w.heap.size]? = some (.cells #[.string s] 9 (0, 0)) ∧
  ∃ v, W.heap[w.heap.size + 1]? = some (.cells #[v] 26 (0, 0)) ∧ Kd.R Kd.string 9 W w.heap.size (fun k => k ≠ w.heap.size) v (done.map fun p => s.extract p.1 p.2) ∧ Below w.heap.size w W ∧ done.length ≤ 1099511627777
set_option maxHeartbeats 1000000 in
theorem text_Lines1_calls (w0 : World) (s : ByteArray) (done : List (Nat × Nat)) (a b : Nat) (w : World) (hs : s.size ≤ 1099511627776) (hab : a ≤ b) (hbs : b ≤ s.size) (h : LiI s w0 done w) (hl : done.length ≤ 1099511627776) :
    Calls Try.prog 34 #[.int .i64 a, .int .i64 b, .pointer (some ⟨w0.heap.size + 1, 0, none⟩), .pointer (some ⟨w0.heap.size, 0, none⟩)] w fun e W => e = .returned (.tuple #[]) ∧ LiI s w0 (done ++ [(a, b)]) W := by
  obtain ⟨h0, v, hb, hR, hB, _⟩ := h
  have hc := cell_of_one hb
  have hc0 := cell_of_one h0
  have HR := Lib.hid hR; clear hR
  have HBk := Lib.hid hb; clear hb
  have HB0 := Lib.hid h0; clear h0
  have HB := Lib.hid hB; clear hB
  have hz : w0.heap.size + 1 < w.heap.size := lt_of_block HBk.out
  go_enter Try.func34, Try.ntmps34
  have HF : ∀ k, w.heap.size ≤ k → k ≠ w0.heap.size := fun k hk => by omega
  have HL : ((done.map fun p => s.extract p.1 p.2).length + 1) * 16 ≤ 140737488355328 := by rw [List.length_map]; omega
  have HNE1 := Lib.hid (Kd.R_ne HR.out HBk.out (by decide))
  have HNE0 := Lib.hid (Kd.R_away HR.out (fun _ hk => hk))
  have hab' : (a : Int) ≤ (b : Int) := by omega
  have hbs' : (b : Int) ≤ (s.size : Int) := by omega
  go_wp2_with fail
  refine start_ (n := 8) (S := fun w' => w'.cell? ⟨w0.heap.size + 1, 0, none⟩ = some v ∧ w'.cell? ⟨w0.heap.size, 0, none⟩ = some (.string s)) (ds := [7]) #[false, false, false, false, false, false, false, false] (by kernel_rfl) rfl rfl ⟨hc, hc0⟩ (fun hHeld => ?_)
  refine pure_ (i := 2) (N := some 8) (v := ?_) (a' := ?_) #[false, false, true, false, false, false, false, false] rfl rfl (by kernel_rfl) (fun _ _ _ h => h) (Or.inl ⟨by rfl, ?_⟩) ?_ ?_
  rotate_left
  · intro w'
    go_simp
    with_reducible rfl
  rotate_left
  · simp only [Act.put, List.setIfInBounds_toArray, List.set_cons_zero, List.set_cons_succ, i64_w, i32_w]
    rfl
  refine pure_ (i := 3) (N := some 9) (v := ?_) (a' := ?_) #[false, false, true, true, false, false, false, false] rfl rfl (by kernel_rfl) (fun _ _ _ h => h) (Or.inl ⟨by rfl, ?_⟩) ?_ ?_
  rotate_left
  · intro w'
    go_simp
    with_reducible rfl
  rotate_left
  · simp only [Act.put, List.setIfInBounds_toArray, List.set_cons_zero, List.set_cons_succ, i64_w, i32_w]
    rfl
  refine take_ (i := 0) (N := some 6) (v := ?_) (a' := ?_) #[true, false, true, true, false, false, false, false] rfl rfl (by kernel_rfl) (fun _ _ _ h => h) (Or.inl ⟨by rfl, ?_⟩) hHeld ?_ ?_
  rotate_left
  · rintro w' ⟨s0, s1⟩
    go_simp
    with_reducible rfl
  rotate_left
  · simp only [Act.put, List.setIfInBounds_toArray, List.set_cons_zero, List.set_cons_succ, i64_w, i32_w]
    rfl
  refine take_ (i := 1) (N := some 7) (v := ?_) (a' := ?_) #[true, true, true, true, false, false, false, false] rfl rfl (by kernel_rfl) (fun _ _ _ h => h) (Or.inl ⟨by rfl, ?_⟩) hHeld ?_ ?_
  rotate_left
  · rintro w' ⟨s0, s1⟩
    go_simp
    with_reducible rfl
  rotate_left
  · simp only [Act.put, List.setIfInBounds_toArray, List.set_cons_zero, List.set_cons_succ, i64_w, i32_w]
    rfl
  refine pure_ (i := 4) (N := some 10) (v := ?_) (a' := ?_) #[true, true, true, true, true, false, false, false] rfl rfl (by kernel_rfl) (fun _ _ _ h => h) (Or.inl ⟨by rfl, ?_⟩) ?_ ?_
  rotate_left
  · intro w'
    go_simp
    with_reducible rfl
  rotate_left
  · simp only [Act.put, List.setIfInBounds_toArray, List.set_cons_zero, List.set_cons_succ, i64_w, i32_w]
    rfl
  refine one_ (i := 5) (N := some 11) #[true, true, true, true, true, true, false, false] rfl rfl (by kernel_rfl) (by decide) (fun K hK => ?_)
  refine value_ (w1 := w.drew.alloc (.cells #[.string (s.extract a b)] 9)) (v := .slice (some ⟨w.heap.size, 0, none⟩) 1 1) (by rfl) rfl ?_ ?_
  · go_simp
  refine hK.out _ _ ⟨(cell_of_one (blk_alloc (blk_drew HBk.out) _)), (cell_of_one (blk_alloc (blk_drew HB0.out) _))⟩ (fun hHeld => ?_)
  clear hK K
  refine norm_ (a' := ?_) ?_ ?_
  rotate_left
  · show Act.put _ (some 11) _ = _
    simp only [Act.put, List.setIfInBounds_toArray, List.set_cons_zero, List.set_cons_succ, i64_w, i32_w]
    rfl
  refine one_ (i := 6) (N := some 12) #[true, true, true, true, true, true, true, false] rfl rfl (by kernel_rfl) (by decide) (fun K hK => ?_)
  refine Kd.R_append_step Kd.string (w0 := w0) (W := w.drew) w0.heap.size (by rfl) (.tmp 6) (.tmp 11) 26 9 (.string ⟨#[]⟩) 16 (by rfl) Try.underlying26 info9 rfl (by decide) (by omega) v (done.map fun p => s.extract p.1 p.2) (s.extract a b) [.string (s.extract a b)] (fun k => k ≠ w0.heap.size) (fun _ => False) (by rfl) (by rfl) ?aP (fun _ hk => hk.elim) ?aF ?aO ?aB ?aS ?aL ?_
  case aP => exact rfl
  case aF => exact HF
  case aO => exact Kd.R_drew HR.out
  case aB => exact below_drew HB.out
  case aS => exact below_size (below_drew HB.out)
  case aL => exact HL
  intro v1 w1 ho hb1 hg _
  obtain ⟨A1, c1, rfl⟩ := Kd.R_slice ho
  have hb2 := blk_grown (blk_drew HBk.out) hg HNE1.out
  have hb3 := blk_grown (blk_drew HB0.out) hg HNE0.out
  have hc2 := cell_of_one hb2
  have hf2 := free_of_one hb2
  have HO := Lib.hid ho; clear ho
  have HB1 := Lib.hid hb1; clear hb1
  have HBk2 := Lib.hid hb2; clear hb2
  have HBk3 := Lib.hid hb3; clear hb3; clear hg
  refine hK.out _ _ ⟨hc2, (cell_of_one HBk3.out)⟩ (fun hHeld => ?_)
  clear hK K
  refine norm_ (a' := ?_) ?_ ?_
  rotate_left
  · show Act.put _ (some 12) _ = _
    simp only [Act.put, List.setIfInBounds_toArray, List.set_cons_zero, List.set_cons_succ, i64_w, i32_w]
    rfl
  refine last_ (i := 7) (N := none) #[true, true, true, true, true, true, true, true] rfl rfl (by kernel_rfl) (by decide) (fun K hK => ?_)
  refine skip_ (w1 := ?_) (by rfl) rfl ?_ ?_
  rotate_left
  · go_simp
    rfl
  refine hK.out _ _ ?_
  clear hK K
  refine done_ (by kernel_rfl) ?_

  go_end0
  exact ⟨rfl, blk_far HBk3.out (by simp) _, _, one_setCell HBk2.out, by have h3 := Kd.R_set HO.out HBk2.out (by decide) 0 (.slice A1 (done.length + 1) c1); simpa using h3, HB1.out.setCell (by simp) _, by simp; omega⟩
def text_Lines.f (a0 : ByteArray) : Option (List ByteArray) := if a0.size ≤ 1099511627776 then some ((lns a0).map fun p => a0.extract p.1 p.2) else none
set_option maxHeartbeats 1000000 in
theorem text_Lines.calls (a0 : ByteArray) (r : List ByteArray) (w : World) (h : text_Lines.f a0 = some r) :
    Calls Try.prog 17 #[.string a0] w fun e w' => ∃ v0_ : Value, e = .returned (v0_) ∧ Kd.R Kd.string 9 w' w.heap.size (fun _ => True) v0_ r ∧ Below w.heap.size w w' := by
  unfold text_Lines.f at h
  by_cases hs : a0.size ≤ 1099511627776
  · rw [if_pos hs] at h
    obtain rfl := Option.some.inj h
    clear h
    have E1 := enters_of Try.func34 (by kernel_rfl) rfl
    go_enter Try.func17, Try.ntmps17
    go_wp2_with fail
    refine (text_each_calls 34 #[.pointer (some ⟨w.heap.size + 1, 0, none⟩), .pointer (some ⟨w.heap.size, 0, none⟩)] E1 a0 hs _ (LiI a0 w) ?hI ?h0).mono ?_
    case hI =>
      intro done a b rest W hd he
      have hn := lns_len a0 hs
      have hm := lns_bound a0.data.toList 0 0 (Nat.le_refl _) (a, b) (by show (a, b) ∈ lns a0; rw [he]; simp)
      rw [he] at hn
      rw [data_length] at hm
      exact text_Lines1_calls w a0 done a b W hs hm.2.1 (by omega) hd (by simp at hn; omega)
    case h0 => exact ⟨blk_alloc (blk_new _ _) _, .slice none 0 0, by simpa using blk_new (w.alloc _) _, Kd.R_nil _ _ _ _ _, ((Below.refl _ _).alloc (Nat.le_refl _) _).alloc (by simp) _, by simp⟩
    rintro e w1 ⟨rfl, _, v, hb, hR, hB, _⟩
    have hc := cell_of_one hb
    have HR := Lib.hid hR; clear hR
    have HB := Lib.hid hB; clear hB hb
    go_wp2
    go_ret
    exact ⟨v, rfl, Kd.R_mono HR.out (fun _ _ => trivial), HB.out⟩
  · rw [if_neg hs] at h
    exact absurd h (by simp)


end Go.Proofs.Ytkklemjidocngaa.PAll
