-- Written by this session's program hprint.py over the kit's print. Not trusted: Lean checks it.
import Derived.Test.YtkokiggccbkngaaPAllx0
import Derived.Test.YtkokiggccbkngaaPAllx2
import Derived.Lib.Hide
import Derived.RangeFuncRecord
import Derived.Lib.ConvBytes
import Derived.Lib.BufferWrite
import Derived.Laws.BytesArg
import Derived.Laws.CopyOwn
namespace Go.Proofs.Ytkokiggccbkngaa.PAll
open Go.RowKit Go.Proofs.YtkokiggccbkngaaW.PrintWords Go.Proofs.YtkokiggccbkngaaW.PrintLast Go.Proofs.YtkokiggccbkngaaW.PrintMore
attribute [local go_sem] max2_int min2_int max_two min_two max_three min_three max_four min_four   -- for this text's walks alone
set_option linter.unusedVariables false
set_option linter.unusedSimpArgs false

--HAND edit_apply.tpl
--HANDIMPORT Derived.Lib.Hide
--HANDIMPORT Derived.RangeFuncRecord
--HANDIMPORT Derived.Lib.ConvBytes
--HANDIMPORT Derived.Lib.BufferWrite
--HANDIMPORT Derived.Laws.BytesArg
--HANDIMPORT Derived.Laws.CopyOwn

/-! ### edit_Apply: function 11 -/
/-- the text built from the edits that are left, s read from fr on -/
def bldE (s : ByteArray) : Int → List S40 → ByteArray
  | fr, [] => s.extract fr.toNat s.size
  | fr, x :: r => s.extract fr.toNat x.f0.toNat ++ x.f2 ++ bldE s x.f1 r
def preE (s : ByteArray) : ByteArray × Int → List S40 → ByteArray × Int
  | p, [] => p
  | p, x :: r => preE s (p.1 ++ s.extract p.2.toNat x.f0.toNat ++ x.f2, x.f1) r
def szE : Int → List S40 → Int
  | n, [] => n
  | n, x :: r => szE (n + ((x.f2.size : Int) - (x.f1 - x.f0))) r
def okE (n : Int) : Int → List S40 → Bool
  | fr, [] => decide (0 ≤ fr) && decide (fr ≤ n)
  | fr, x :: r => decide (0 ≤ fr) && decide (fr ≤ x.f0) && decide (x.f0 ≤ x.f1) && decide (x.f1 ≤ n) && decide (x.f2.size ≤ 140737488355328) && okE n x.f1 r
def edit_Apply.f (k : Nat) (a0 : ByteArray) (l1 : List (S40)) : Option (ByteArray × Int) :=
  if a0.size ≤ 140737488355328 then (edit_Right.f k l1 (a0.size : Int)).bind fun e => if e = 0 then
      (if l1.length ≤ 64 ∧ okE a0.size 0 l1 = true ∧ szE a0.size l1 = ((bldE a0 0 l1).size : Int) then (if szE a0.size l1 > 4000 then some ((⟨#[]⟩ : ByteArray), 4) else some (bldE a0 0 l1, 0)) else none)
    else some ((⟨#[]⟩ : ByteArray), e) else none
theorem edit_Apply.mono : ∀ a0 a1 k, LeO (edit_Apply.f k a0 a1) (edit_Apply.f (k + 1) a0 a1) := by
  intro a0 a1 k
  unfold edit_Apply.f
  exact LeO.ite (LeO.bind (edit_Right.mono _ _ _) (fun _ => LeO.refl _)) (LeO.refl _)
theorem ok_split {n : Int} {l2 : List S40} {s : ByteArray} (hs : (s.size : Int) = n) : ∀ {l1 : List S40} {p : ByteArray × Int}, okE n p.2 (l1 ++ l2) = true → okE n (preE s p l1).2 l2 = true ∧ (preE s p l1).1 ++ bldE s (preE s p l1).2 l2 = p.1 ++ bldE s p.2 (l1 ++ l2)
  | [], p, h => ⟨h, rfl⟩
  | x :: r, p, h => by
    rw [List.cons_append, okE] at h
    simp only [Bool.and_eq_true] at h
    obtain ⟨h1, h2⟩ := ok_split hs (l1 := r) (p := (p.1 ++ s.extract p.2.toNat x.f0.toNat ++ x.f2, x.f1)) h.2
    refine ⟨h1, ?_⟩
    rw [preE, h2, List.cons_append, bldE]
    simp only [ByteArray.append_assoc]
theorem sz_snoc : ∀ (l : List S40) (n : Int) (x : S40), szE n (l ++ [x]) = szE n l + ((x.f2.size : Int) - (x.f1 - x.f0))
  | [], n, x => rfl
  | y :: r, n, x => by rw [List.cons_append, szE, szE, sz_snoc r]
theorem pre_snoc (s : ByteArray) : ∀ (l : List S40) (p : ByteArray × Int) (x : S40), preE s p (l ++ [x]) = ((preE s p l).1 ++ s.extract (preE s p l).2.toNat x.f0.toNat ++ x.f2, x.f1)
  | [], p, x => rfl
  | y :: r, p, x => by rw [List.cons_append, preE, preE, pre_snoc s r]
theorem ok_mem {n : Int} : ∀ {l : List S40} {fr : Int}, okE n fr l = true → ∀ x ∈ l, 0 ≤ x.f0 ∧ x.f0 ≤ x.f1 ∧ x.f1 ≤ n ∧ x.f2.size ≤ 140737488355328
  | [], _, _, x, hx => by cases hx
  | y :: r, fr, h, x, hx => by
    rw [okE] at h
    simp only [Bool.and_eq_true, decide_eq_true_eq] at h
    rcases List.mem_cons.1 hx with rfl | hx
    · omega
    · exact ok_mem h.2 x hx
theorem sz_bound {n : Int} {fr : Int} {l : List S40} (hn : 0 ≤ n ∧ n ≤ 140737488355328) (h : okE n fr l = true) : ∀ j : Nat, -(j * 281474976710656 : Int) ≤ szE n (l.take j) - n ∧ szE n (l.take j) - n ≤ (j * 281474976710656 : Int)
  | 0 => by simp [szE]
  | j + 1 => by
    have ih := sz_bound hn h j
    rcases Nat.lt_or_ge j l.length with hj | hj
    · rw [List.take_succ_eq_append_getElem hj, sz_snoc]
      have := ok_mem h _ (List.getElem_mem hj)
      omega
    · rw [List.take_of_length_le (by omega)]
      rw [List.take_of_length_le (by omega)] at ih
      omega
theorem wrA (i : Int) (h0 : -4611686018427387904 ≤ i) (h : i < 4611686018427387904) : wrap64 i = i := by unfold wrap64; omega
theorem natlt {a j : Nat} (h : j < a) : ((a : Int) - ((j + 1 : Nat) : Int)).toNat < ((a : Int) - (j : Int)).toNat := by omega
theorem rdA (l : List S40) (i : Nat) (h : i < l.length) : rd_T40 l (i : Int) = l[i] := by
  unfold rd_T40
  rw [Int.toNat_natCast, List.getD_eq_getElem?_getD, List.getElem?_eq_getElem h]
  rfl
/-- the bytes' row: its first cells are the text built so far -/
def ApI (w : World) (G m : Nat) (T : ByteArray) (W : World) : Prop :=
  w.heap.size ≤ G ∧ T.size ≤ m ∧ Below w.heap.size w W ∧ ∃ cur : Array Value, W.heap[G]? = some (.cells cur 5 (0, 0)) ∧ cur.size = m ∧ cur.toList.take T.size = Lib.byteCells T.data.toList
theorem info5a : (Try.prog.info? 5).map (fun i => (i.zero, i.size, i.bytes)) = some (some (.int .u8 0), 1, 1) := by kernel_rfl
theorem setRow_far (w : World) (g k : Nat) (cs : Array Value) (h : k ≠ g) : (w.setRow g cs).heap[k]? = w.heap[k]? := by
  have h' : ¬ g = k := fun e => h e.symm
  simp [World.setRow, Array.getElem?_modify, h']
theorem byteCells_app (a b : ByteArray) : Lib.byteCells (a ++ b).data.toList = Lib.byteCells a.data.toList ++ Lib.byteCells b.data.toList := by
  unfold Lib.byteCells
  rw [ByteArray.data_append, Array.toList_append, List.map_append]
theorem byteCells_size (a : ByteArray) : (Lib.byteCells a.data.toList).length = a.size := by
  rw [Lib.byteCells_length, Array.length_toList]; rfl
theorem api_copy {w : World} {G m : Nat} {T : ByteArray} {W : World} (h : ApI w G m T W) (t : ByteArray) (hf : T.size + t.size ≤ m) :
    ∃ (W1 : World) (n : Nat), n = t.size ∧ (∀ ty, (Builtin.copy_ #[41, 9] ty #[.slice (if m = T.size then some ⟨G, 0, none⟩ else some ⟨G, T.size, none⟩) (m - T.size) (m - T.size), .string t]).run Try.prog W = .ok (.int .i64 (n : Int)) W1) ∧ ApI w G m (T ++ t) W1 ∧ (∀ k, k ≠ G → W1.heap[k]? = W.heap[k]?) := by
  obtain ⟨h1, h2, h3, cur, h4, h5, h6⟩ := h
  have hi : (Try.prog.info? 5).map (·.size) = some 1 := by
    have := info5a
    simp only [Option.map_eq_some_iff, Prod.mk.injEq] at this
    obtain ⟨i, hi, _, hz, _⟩ := this
    rw [hi, Option.map_some, hz]
  by_cases hm : m = T.size
  · have ht : t.size = 0 := by omega
    have hT : T ++ t = T := by
      have : t = ByteArray.empty := by
        obtain ⟨⟨l⟩⟩ := t
        have : l = [] := List.length_eq_zero_iff.1 ht
        rw [this]; rfl
      rw [this, ByteArray.append_empty]
    have hrun := fun ty => Lib.run_copy_row_string W 41 9 ty 5 G 0 (m - T.size) (m - T.size) t cur 5 Try.underlying41 hi h4 (by omega) (by omega)
    have hcl : Lib.byteCells t.data.toList = [] := List.length_eq_zero_iff.1 (by rw [byteCells_size, ht])
    have harr : (cur.toList.take 0 ++ Lib.byteCells t.data.toList ++ cur.toList.drop (0 + t.size)).toArray = cur := by rw [hcl, ht]; simp
    refine ⟨W, 0, ht.symm, fun ty => ?_, by rw [hT]; exact ⟨h1, h2, h3, cur, h4, h5, h6⟩, fun _ _ => rfl⟩
    rw [if_pos hm, hrun ty, harr, setRow_self _ _ _ _ _ h4, ht]
    rfl
  · refine ⟨W.setRow G (cur.toList.take T.size ++ Lib.byteCells t.data.toList ++ cur.toList.drop (T.size + t.size)).toArray, t.size, rfl, fun ty => ?_, ⟨h1, by rw [ByteArray.size_append]; omega, below_setRow h3 h1 _, _, setRow_heap _ _ _ _ _ _ h4, ?_, ?_⟩, fun k hk => setRow_far _ _ _ _ hk⟩
    · rw [if_neg hm]
      exact Lib.run_copy_row_string W 41 9 ty 5 G T.size (m - T.size) (m - T.size) t cur 5 Try.underlying41 hi h4 (by omega) (by omega)
    · simp [byteCells_size]
      omega
    · have e1 : (cur.toList.take T.size).length = T.size := by simp; omega
      have e2 := byteCells_size t
      have e3 : (T ++ t).size = (cur.toList.take T.size ++ Lib.byteCells t.data.toList).length := by rw [ByteArray.size_append, List.length_append, e1, e2]
      show List.take (T ++ t).size (cur.toList.take T.size ++ Lib.byteCells t.data.toList ++ cur.toList.drop (T.size + t.size)) = _
      rw [e3, List.take_left, byteCells_app, h6]
theorem strOfNums_bytesOf (s : ByteArray) : strOfNums (bytesOf s) = s := by
  have h : (strOfNums (bytesOf s)).data.toList = s.data.toList := by
    rw [strOfNums_data]
    unfold bytesOf
    rw [List.map_map]
    conv => rhs; rw [← List.map_id s.data.toList]
    refine List.map_congr_left (fun b _ => ?_)
    simp
  cases hs : strOfNums (bytesOf s) with
  | mk d =>
    rw [hs] at h
    cases s with
    | mk d2 => congr 1; exact Array.toList_inj.1 h
theorem api_drew {w : World} {G m : Nat} {T : ByteArray} {W : World} (h : ApI w G m T W) : ApI w G m T W.drew := ⟨h.1, h.2.1, below_drew h.2.2.1, h.2.2.2⟩
theorem api_alloc {w : World} {G m : Nat} {T : ByteArray} {W : World} (h : ApI w G m T W) (o : Obj) : ApI w G m T (W.alloc o) := by
  obtain ⟨h1, h2, h3, cur, h4, h5⟩ := h
  exact ⟨h1, h2, h3.alloc h3.size _, cur, blk_alloc h4 _, h5⟩
theorem api_lt {w : World} {G m : Nat} {T : ByteArray} {W : World} (h : ApI w G m T W) : G < W.heap.size := by
  obtain ⟨h1, h2, h3, cur, h4, h5⟩ := h
  exact lt_of_block h4
set_option maxRecDepth 100000 in
set_option maxHeartbeats 8000000 in
theorem edit_Apply.calls (k : Nat) (a0 : ByteArray) (A1 : Option Addr) (c1 : Nat) (l1 : List (S40)) (r1 : ByteArray) (r2 : Int) (w : World) (hr1 : Kd.C k40 w A1 l1.length l1) (hc1 : l1.length ≤ c1) (h : edit_Apply.f k a0 l1 = some (r1, r2)) :
    Calls Try.prog 11 #[.string a0, .slice A1 l1.length c1] w fun e w' => e = .returned (.tuple #[.string r1, .int .i64 r2]) ∧ Below w.heap.size w w' := by
  unfold edit_Apply.f at h
  by_cases hs0 : a0.size ≤ 140737488355328
  · rw [if_pos hs0] at h
    obtain ⟨e1, he1, h'⟩ := Option.bind_eq_some_iff.1 h
    have H := Lib.hid h'; clear h' h
    have HE1 := Lib.hid he1; clear he1
    have HS := Lib.hid hs0; clear hs0
    have HR := Lib.hid hr1; clear hr1
    go_enter Try.func11, Try.ntmps11
    go_wp2_with fail
    refine (edit_Right.calls k A1 c1 l1 (a0.size : Int) e1 w HR.out hc1 HE1.out).mono ?_
    rintro e w1 ⟨rfl, hB1⟩
    have HR1 := Lib.hid (Kd.C_below HR.out hB1)
    have HB1 := Lib.hid hB1; clear hB1
    by_cases c1 : e1 = 0
    · subst c1
      have h := H.out
      rw [if_pos rfl] at h
      by_cases hok : l1.length ≤ 64 ∧ okE a0.size 0 l1 = true ∧ szE a0.size l1 = ((bldE a0 0 l1).size : Int)
      · rw [if_pos hok] at h
        clear H
        have H := Lib.hid h; clear h
        have HOK := Lib.hid hok; clear hok
        go_wp2
        go_loopw [7, 26] (fun a b wr => ∃ j : Nat, j ≤ l1.length ∧ b = .int .i64 (j : Int) ∧ a = .int .i64 (szE a0.size (l1.take j)) ∧ Hid (Below w.heap.size w wr)) (fun _ b _ => ((l1.length : Int) - intOf b).toNat)
        case atStart => exact ⟨0, Nat.zero_le _, rfl, rfl, HB1⟩
        case round =>
          obtain ⟨j, hj, rfl, rfl, HB⟩ := hrel
          by_cases hlt : j < l1.length
          · have hlt' : (j : Int) < (l1.length : Int) := by omega
            have hge : (0 : Int) ≤ (j : Int) := by omega
            have hCr := Kd.C_below HR.out HB.out
            obtain ⟨ad, rfl, hx0, hx1, hx2⟩ := at_T40 hCr (j : Int) hge hlt'
            have hr : rd_T40 l1 (j : Int) = l1[j] := rdA l1 j hlt
            rw [hr] at hx0 hx1 hx2
            clear hr
            simp only [Int.toNat_natCast] at hx0 hx1 hx2
            go_wp2
            have hb := sz_bound (l := l1) (fr := 0) (by have := HS.out; omega) HOK.out.2.1 j
            have hm := ok_mem HOK.out.2.1 _ (List.getElem_mem hlt)
            have h64 := HOK.out.1
            have hS := HS.out
            have w1 : wrap64 (l1[j].f1 - l1[j].f0) = l1[j].f1 - l1[j].f0 := wrA _ (by omega) (by omega)
            have w2 : wrap64 ((l1[j].f2.size : Int) - (l1[j].f1 - l1[j].f0)) = (l1[j].f2.size : Int) - (l1[j].f1 - l1[j].f0) := wrA _ (by omega) (by omega)
            have w3 : wrap64 (szE a0.size (l1.take j) + ((l1[j].f2.size : Int) - (l1[j].f1 - l1[j].f0))) = szE a0.size (l1.take j) + ((l1[j].f2.size : Int) - (l1[j].f1 - l1[j].f0)) := wrA _ (by omega) (by omega)
            have w4 : wrap64 ((j : Int) + 1) = ((j + 1 : Nat) : Int) := wrA _ (by omega) (by omega)
            rw [w1, w2, w3, w4]
            exact ⟨⟨j + 1, hlt, rfl, by rw [List.take_succ_eq_append_getElem hlt, sz_snoc], Lib.hid (HB.out.alloc HB.out.size _)⟩, natlt hlt⟩
          · have hlt' : ¬ ((j : Int) < (l1.length : Int)) := by omega
            have ej : l1.take j = l1 := List.take_of_length_le (by omega)
            rw [ej, HOK.out.2.2]
            obtain ⟨m, hm⟩ : ∃ m, m = (bldE a0 0 l1).size := ⟨_, rfl⟩
            rw [← hm]
            have h := H.out
            rw [HOK.out.2.2, ← hm] at h
            clear H ej
            by_cases c4 : (m : Int) > 4000
            · rw [if_pos c4] at h
              simp only [Option.some.injEq, Prod.mk.injEq] at h
              obtain ⟨rfl, rfl⟩ := h
              go_wp2
              go_ret2
              exact ⟨rfl, HB.out⟩
            · rw [if_neg c4] at h
              simp only [Option.some.injEq, Prod.mk.injEq] at h
              obtain ⟨rfl, rfl⟩ := h
              have hmk := print_make (P := Try.prog) 41 5 .u8 1 Try.underlying41 info5a (by decide) m (by omega)
              have HM := Lib.hid hm; clear hm
              obtain ⟨wq, rfl⟩ : ∃ wq, wq = wr := ⟨_, rfl⟩
              go_wp2
              clear hmk
              go_loopw [11, 12, 48] (fun a f i wr => ∃ j : Nat, j ≤ l1.length ∧ i = .int .i64 (j : Int) ∧ a = .int .i64 ((preE a0 ((⟨#[]⟩ : ByteArray), 0) (l1.take j)).1.size : Int) ∧ f = .int .i64 (preE a0 ((⟨#[]⟩ : ByteArray), 0) (l1.take j)).2 ∧ Hid (ApI w wq.heap.size m (preE a0 ((⟨#[]⟩ : ByteArray), 0) (l1.take j)).1 wr)) (fun _ _ i _ => ((l1.length : Int) - intOf i).toNat)
              case atStart =>
                refine ⟨0, Nat.zero_le _, rfl, rfl, rfl, Lib.hid ⟨HB.out.size, Nat.zero_le _, HB.out.alloc HB.out.size _, _, World.alloc_heap_new _ _, size_madeCells _ _, rfl⟩⟩
              case round =>
                obtain ⟨j2, hj2, rfl, rfl, rfl, HI⟩ := hrel
                by_cases hlt2 : j2 < l1.length
                · have hlt2' : (j2 : Int) < (l1.length : Int) := by omega
                  have hge2 : (0 : Int) ≤ (j2 : Int) := by omega
                  have hCr := Kd.C_below HR.out HI.out.2.2.1
                  obtain ⟨ad, rfl, hx0, hx1, hx2⟩ := at_T40 hCr (j2 : Int) hge2 hlt2'
                  have hr : rd_T40 l1 (j2 : Int) = l1[j2] := rdA l1 j2 hlt2
                  rw [hr] at hx0 hx1 hx2
                  clear hr hCr
                  simp only [Int.toNat_natCast] at hx0 hx1 hx2
                  obtain ⟨hsp1, hsp2⟩ := ok_split (s := a0) rfl (l1 := l1.take j2) (l2 := l1.drop j2) (p := ((⟨#[]⟩ : ByteArray), 0)) (by rw [List.take_append_drop]; exact HOK.out.2.1)
                  have hsn := pre_snoc a0 (l1.take j2) ((⟨#[]⟩ : ByteArray), 0) l1[j2]
                  rw [← List.take_succ_eq_append_getElem hlt2] at hsn
                  have hsz : ((preE a0 ((⟨#[]⟩ : ByteArray), 0) (l1.take j2)).1 ++ bldE a0 (preE a0 ((⟨#[]⟩ : ByteArray), 0) (l1.take j2)).2 (l1.drop j2)).size = m := by
                    rw [hsp2, List.take_append_drop, ByteArray.size_append, HM.out]; simp; rfl
                  rw [List.drop_eq_getElem_cons hlt2] at hsp1 hsz
                  rw [okE] at hsp1
                  rw [bldE] at hsz
                  simp only [ByteArray.size_append] at hsz
                  simp only [Bool.and_eq_true, decide_eq_true_eq] at hsp1
                  obtain ⟨⟨⟨⟨⟨q1, q2⟩, q3⟩, q4⟩, q5⟩, q6⟩ := hsp1
                  have HSN := Lib.hid hsn; clear hsn hsp2
                  have HQ6 := Lib.hid q6; clear q6
                  generalize hx : l1[j2] = x at hx0 hx1 hx2 q1 q2 q3 q4 q5 HQ6 hsz HSN
                  clear hx
                  generalize (preE a0 ((⟨#[]⟩ : ByteArray), 0) (l1.take j2)).1 = T at hsz HI HSN ⊢
                  generalize (preE a0 ((⟨#[]⟩ : ByteArray), 0) (l1.take j2)).2 = fr at q1 q2 hsz HSN ⊢
                  obtain ⟨y0, y1, y2⟩ := x
                  simp only at hx0 hx1 hx2 q1 q2 q3 q4 q5 HQ6 hsz HSN
                  have hf1 : T.size + (a0.extract fr.toNat y0.toNat).size + y2.size ≤ m := by omega
                  have hTm : (T.size : Int) ≤ (m : Int) := by omega
                  have hT0 : (0 : Int) ≤ (T.size : Int) := by omega
                  have hy0 : 0 ≤ y0 := by omega
                  have hyn : y0 ≤ (a0.size : Int) := by omega
                  clear hsz
                  go_wp2_with fail
                  have hbn := World.alloc_heap_new wr (.cells #[.int .i64 y0, .int .i64 y1, .string y2] 40)
                  have hAb := api_drew (api_alloc HI.out (.cells #[.int .i64 y0, .int .i64 y1, .string y2] 40))
                  have hGb : wr.heap.size ≠ wq.heap.size := by have := api_lt HI.out; omega
                  generalize wr.alloc (.cells #[.int .i64 y0, .int .i64 y1, .string y2] 40) = wb at hbn hAb ⊢
                  obtain ⟨W1, n1, hn1, hcp1, hA1, hk1⟩ := api_copy hAb (a0.extract fr.toNat y0.toNat) (by omega)
                  have hb1 : W1.heap[wr.heap.size]? = some (.cells #[.int .i64 y0, .int .i64 y1, .string y2] 40 (0, 0)) := (hk1 _ hGb).trans hbn
                  have hx10 : wb.cell? ⟨wr.heap.size, 0, none⟩ = some (.int .i64 y0) := blk_cell hbn 0
                  have HB1x := Lib.hid hb1
                  have HA1 := Lib.hid hA1
                  obtain ⟨T1, hT1⟩ : ∃ T1, T1 = T ++ a0.extract fr.toNat y0.toNat := ⟨_, rfl⟩
                  rw [← hT1] at HSN HA1
                  have hs1 : T1.size = T.size + n1 := by rw [hT1, ByteArray.size_append, hn1]
                  have hs2 : T1.size + y2.size ≤ m := by omega
                  have hw1 : wrap64 ((T.size : Int) + (n1 : Int)) = (T1.size : Int) := by rw [hs1]; exact (wrA _ (by omega) (by omega)).trans (by omega)
                  clear hx0 hx1 hx2 hf1 hT1 hb1 hA1 hn1 hAb hbn
                  have HS2 := Lib.hid hs2
                  clear hs1 hs2
                  refine start_ (n := 12) (S := fun w' => w'.cell? ⟨wr.heap.size, 0, none⟩ = some (.int .i64 y0)) (ds := []) #[false, false, false, false, false, false, false, false, false, false, false, false] (by kernel_rfl) rfl rfl (hx10) (fun hHeld => ?_)
                  refine pure_ (i := 0) (N := some 52) (v := ?_) (a' := ?_) #[true, false, false, false, false, false, false, false, false, false, false, false] rfl rfl (by kernel_rfl) (fun _ _ _ h => h) (Or.inl ⟨by rfl, ?_⟩) ?_ ?_
                  rotate_left
                  · intro w'
                    go_simp
                    with_reducible rfl
                  rotate_left
                  · simp only [Act.put, List.setIfInBounds_toArray, List.set_cons_zero, List.set_cons_succ, i64_w, i32_w]
                    rfl
                  refine pure_ (i := 1) (N := some 53) (v := ?_) (a' := ?_) #[true, true, false, false, false, false, false, false, false, false, false, false] rfl rfl (by kernel_rfl) (fun _ _ _ h => h) (Or.inl ⟨by rfl, ?_⟩) ?_ ?_
                  rotate_left
                  · intro w'
                    go_simp
                    with_reducible rfl
                  rotate_left
                  · simp only [Act.put, List.setIfInBounds_toArray, List.set_cons_zero, List.set_cons_succ, i64_w, i32_w]
                    rfl
                  refine pure_ (i := 2) (N := some 54) (v := ?_) (a' := ?_) #[true, true, true, false, false, false, false, false, false, false, false, false] rfl rfl (by kernel_rfl) (fun _ _ _ h => h) (Or.inl ⟨by rfl, ?_⟩) ?_ ?_
                  rotate_left
                  · intro w'
                    go_simp
                    with_reducible rfl
                  rotate_left
                  · simp only [Act.put, List.setIfInBounds_toArray, List.set_cons_zero, List.set_cons_succ, i64_w, i32_w]
                    rfl
                  refine pure_ (i := 3) (N := some 55) (v := ?_) (a' := ?_) #[true, true, true, true, false, false, false, false, false, false, false, false] rfl rfl (by kernel_rfl) (fun _ _ _ h => h) (Or.inl ⟨by rfl, ?_⟩) ?_ ?_
                  rotate_left
                  · intro w'
                    go_simp
                    with_reducible rfl
                  rotate_left
                  · simp only [Act.put, List.setIfInBounds_toArray, List.set_cons_zero, List.set_cons_succ, i64_w, i32_w]
                    rfl
                  refine pure_ (i := 4) (N := some 56) (v := ?_) (a' := ?_) #[true, true, true, true, true, false, false, false, false, false, false, false] rfl rfl (by kernel_rfl) (fun _ _ _ h => h) (Or.inl ⟨by rfl, ?_⟩) ?_ ?_
                  rotate_left
                  · intro w'
                    go_simp
                    with_reducible rfl
                  rotate_left
                  · simp only [Act.put, List.setIfInBounds_toArray, List.set_cons_zero, List.set_cons_succ, i64_w, i32_w]
                    rfl
                  refine pure_ (i := 5) (N := some 57) (v := ?_) (a' := ?_) #[true, true, true, true, true, true, false, false, false, false, false, false] rfl rfl (by kernel_rfl) (fun _ _ _ h => h) (Or.inl ⟨by rfl, ?_⟩) ?_ ?_
                  rotate_left
                  · intro w'
                    go_simp
                    with_reducible rfl
                  rotate_left
                  · simp only [Act.put, List.setIfInBounds_toArray, List.set_cons_zero, List.set_cons_succ, i64_w, i32_w]
                    rfl
                  refine pure_ (i := 6) (N := some 58) (v := ?_) (a' := ?_) #[true, true, true, true, true, true, true, false, false, false, false, false] rfl rfl (by kernel_rfl) (fun _ _ _ h => h) (Or.inl ⟨by rfl, ?_⟩) ?_ ?_
                  rotate_left
                  · intro w'
                    go_simp
                    with_reducible rfl
                  rotate_left
                  · simp only [Act.put, List.setIfInBounds_toArray, List.set_cons_zero, List.set_cons_succ, i64_w, i32_w]
                    rfl
                  refine take_ (i := 7) (N := some 59) (v := ?_) (a' := ?_) #[true, true, true, true, true, true, true, true, false, false, false, false] rfl rfl (by kernel_rfl) (fun _ _ _ h => h) (Or.inl ⟨by rfl, ?_⟩) hHeld ?_ ?_
                  rotate_left
                  · intro w' s0
                    go_simp
                    with_reducible rfl
                  rotate_left
                  · simp only [Act.put, List.setIfInBounds_toArray, List.set_cons_zero, List.set_cons_succ, i64_w, i32_w]
                    rfl
                  refine pure_ (i := 8) (N := some 60) (v := ?_) (a' := ?_) #[true, true, true, true, true, true, true, true, true, false, false, false] rfl rfl (by kernel_rfl) (fun _ _ _ h => h) (Or.inl ⟨by rfl, ?_⟩) ?_ ?_
                  rotate_left
                  · intro w'
                    go_simp
                    with_reducible rfl
                  rotate_left
                  · simp only [Act.put, List.setIfInBounds_toArray, List.set_cons_zero, List.set_cons_succ, i64_w, i32_w]
                    rfl
                  refine one_ (i := 9) (N := some 61) #[true, true, true, true, true, true, true, true, true, true, false, false] rfl rfl (by kernel_rfl) (by decide) (fun K hK => ?_)
                  refine value_ (w1 := ?_) (v := ?_) (by rfl) rfl ?_ ?_
                  rotate_left 2
                  · go_simp
                    constructor
                    · rfl
                    · rfl
                  refine hK.out _ _ ((blk_cell HB1x.out 0)) (fun hHeld => ?_)
                  clear hK K
                  refine norm_ (a' := ?_) ?_ ?_
                  rotate_left
                  · show Act.put _ (some 61) _ = _
                    simp only [Act.put, List.setIfInBounds_toArray, List.set_cons_zero, List.set_cons_succ, i64_w, i32_w]
                    rfl
                  refine pure_ (i := 10) (N := some 62) (v := ?_) (a' := ?_) #[true, true, true, true, true, true, true, true, true, true, true, false] rfl rfl (by kernel_rfl) (fun _ _ _ h => h) (Or.inl ⟨by rfl, ?_⟩) ?_ ?_
                  rotate_left
                  · intro w'
                    go_simp
                    with_reducible rfl
                  rotate_left
                  · simp only [Act.put, List.setIfInBounds_toArray, List.set_cons_zero, List.set_cons_succ, i64_w, i32_w]
                    rfl
                  refine pure_ (i := 11) (N := some 11) (v := ?_) (a' := ?_) #[true, true, true, true, true, true, true, true, true, true, true, true] rfl rfl (by kernel_rfl) (fun _ _ _ h => h) (Or.inl ⟨by rfl, ?_⟩) ?_ ?_
                  rotate_left
                  · intro w'
                    go_simp
                    with_reducible rfl
                  rotate_left
                  · simp only [Act.put, List.setIfInBounds_toArray, List.set_cons_zero, List.set_cons_succ, i64_w, i32_w]
                    rfl
                  refine done_ (by kernel_rfl) ?_

                  clear hcp1 hw1 hHeld hx10 q2 hyn hy0
                  generalize (if m = T.size then (some ⟨wq.heap.size, 0, none⟩ : Option Addr) else some ⟨wq.heap.size, T.size, none⟩) = sa1
                  obtain ⟨W2, n2, hn2, hcp2, hA2, hk2⟩ := api_copy (api_drew HA1.out) y2 HS2.out
                  have hb2 : W2.heap[wr.heap.size]? = some (.cells #[.int .i64 y0, .int .i64 y1, .string y2] 40 (0, 0)) := (hk2 _ hGb).trans HB1x.out
                  have hx12 : W1.cell? ⟨wr.heap.size, 2, none⟩ = some (.string y2) := blk_cell HB1x.out 2
                  have hx21 : W2.cell? ⟨wr.heap.size, 1, none⟩ = some (.int .i64 y1) := blk_cell hb2 1
                  have HB2x := Lib.hid hb2
                  obtain ⟨T2, hT2⟩ : ∃ T2, T2 = T1 ++ y2 := ⟨_, rfl⟩
                  rw [← hT2] at HSN hA2
                  have hs1 : T2.size = T1.size + n2 := by rw [hT2, ByteArray.size_append, hn2]
                  have HA2 := Lib.hid hA2
                  have hT1m : (T1.size : Int) ≤ (m : Int) := by have := HS2.out; omega
                  have hT10 : (0 : Int) ≤ (T1.size : Int) := by omega
                  have hw2 : wrap64 ((T1.size : Int) + (n2 : Int)) = (T2.size : Int) := by rw [hs1]; exact (wrA _ (by have := HS2.out; omega) (by have := HS2.out; omega)).trans (by omega)
                  clear hs1 hn2 hT2 hb2 hA2 hTm hT0
                  go_wp2_with fail
                  refine start_ (n := 9) (S := fun w' => w'.cell? ⟨wr.heap.size, 2, none⟩ = some (.string y2)) (ds := []) #[false, false, false, false, false, false, false, false, false] (by kernel_rfl) rfl rfl (hx12) (fun hHeld => ?_)
                  refine pure_ (i := 0) (N := some 63) (v := ?_) (a' := ?_) #[true, false, false, false, false, false, false, false, false] rfl rfl (by kernel_rfl) (fun _ _ _ h => h) (Or.inl ⟨by rfl, ?_⟩) ?_ ?_
                  rotate_left
                  · intro w'
                    go_simp
                    with_reducible rfl
                  rotate_left
                  · simp only [Act.put, List.setIfInBounds_toArray, List.set_cons_zero, List.set_cons_succ, i64_w, i32_w]
                    rfl
                  refine pure_ (i := 1) (N := some 64) (v := ?_) (a' := ?_) #[true, true, false, false, false, false, false, false, false] rfl rfl (by kernel_rfl) (fun _ _ _ h => h) (Or.inl ⟨by rfl, ?_⟩) ?_ ?_
                  rotate_left
                  · intro w'
                    go_simp
                    with_reducible rfl
                  rotate_left
                  · simp only [Act.put, List.setIfInBounds_toArray, List.set_cons_zero, List.set_cons_succ, i64_w, i32_w]
                    rfl
                  refine pure_ (i := 2) (N := some 65) (v := ?_) (a' := ?_) #[true, true, true, false, false, false, false, false, false] rfl rfl (by kernel_rfl) (fun _ _ _ h => h) (Or.inl ⟨by rfl, ?_⟩) ?_ ?_
                  rotate_left
                  · intro w'
                    go_simp
                    with_reducible rfl
                  rotate_left
                  · simp only [Act.put, List.setIfInBounds_toArray, List.set_cons_zero, List.set_cons_succ, i64_w, i32_w]
                    rfl
                  refine pure_ (i := 3) (N := some 66) (v := ?_) (a' := ?_) #[true, true, true, true, false, false, false, false, false] rfl rfl (by kernel_rfl) (fun _ _ _ h => h) (Or.inl ⟨by rfl, ?_⟩) ?_ ?_
                  rotate_left
                  · intro w'
                    go_simp
                    with_reducible rfl
                  rotate_left
                  · simp only [Act.put, List.setIfInBounds_toArray, List.set_cons_zero, List.set_cons_succ, i64_w, i32_w]
                    rfl
                  refine pure_ (i := 4) (N := some 67) (v := ?_) (a' := ?_) #[true, true, true, true, true, false, false, false, false] rfl rfl (by kernel_rfl) (fun _ _ _ h => h) (Or.inl ⟨by rfl, ?_⟩) ?_ ?_
                  rotate_left
                  · intro w'
                    go_simp
                    with_reducible rfl
                  rotate_left
                  · simp only [Act.put, List.setIfInBounds_toArray, List.set_cons_zero, List.set_cons_succ, i64_w, i32_w]
                    rfl
                  refine take_ (i := 5) (N := some 68) (v := ?_) (a' := ?_) #[true, true, true, true, true, true, false, false, false] rfl rfl (by kernel_rfl) (fun _ _ _ h => h) (Or.inl ⟨by rfl, ?_⟩) hHeld ?_ ?_
                  rotate_left
                  · intro w' s0
                    go_simp
                    with_reducible rfl
                  rotate_left
                  · simp only [Act.put, List.setIfInBounds_toArray, List.set_cons_zero, List.set_cons_succ, i64_w, i32_w]
                    rfl
                  refine one_ (i := 6) (N := some 69) #[true, true, true, true, true, true, true, false, false] rfl rfl (by kernel_rfl) (by decide) (fun K hK => ?_)
                  refine value_ (w1 := ?_) (v := ?_) (by rfl) rfl ?_ ?_
                  rotate_left 2
                  · go_simp
                    constructor
                    · rfl
                    · rfl
                  refine hK.out _ _ ((blk_cell HB2x.out 2)) (fun hHeld => ?_)
                  clear hK K
                  refine norm_ (a' := ?_) ?_ ?_
                  rotate_left
                  · show Act.put _ (some 69) _ = _
                    simp only [Act.put, List.setIfInBounds_toArray, List.set_cons_zero, List.set_cons_succ, i64_w, i32_w]
                    rfl
                  refine pure_ (i := 7) (N := some 70) (v := ?_) (a' := ?_) #[true, true, true, true, true, true, true, true, false] rfl rfl (by kernel_rfl) (fun _ _ _ h => h) (Or.inl ⟨by rfl, ?_⟩) ?_ ?_
                  rotate_left
                  · intro w'
                    go_simp
                    with_reducible rfl
                  rotate_left
                  · simp only [Act.put, List.setIfInBounds_toArray, List.set_cons_zero, List.set_cons_succ, i64_w, i32_w]
                    rfl
                  refine pure_ (i := 8) (N := some 11) (v := ?_) (a' := ?_) #[true, true, true, true, true, true, true, true, true] rfl rfl (by kernel_rfl) (fun _ _ _ h => h) (Or.inl ⟨by rfl, ?_⟩) ?_ ?_
                  rotate_left
                  · intro w'
                    go_simp
                    with_reducible rfl
                  rotate_left
                  · simp only [Act.put, List.setIfInBounds_toArray, List.set_cons_zero, List.set_cons_succ, i64_w, i32_w]
                    rfl
                  refine done_ (by kernel_rfl) ?_

                  clear hcp2 hw2 hHeld hx12
                  generalize (if m = T1.size then (some ⟨wq.heap.size, 0, none⟩ : Option Addr) else some ⟨wq.heap.size, T1.size, none⟩) = sa2
                  have w4 : wrap64 ((j2 : Int) + 1) = ((j2 + 1 : Nat) : Int) := wrA _ (by have := HOK.out.1; omega) (by have := HOK.out.1; omega)
                  have HW4 := Lib.hid w4; clear w4
                  go_wp2
                  rw [HW4.out]
                  exact ⟨⟨j2 + 1, hlt2, rfl, by rw [HSN.out], by rw [HSN.out], by rw [HSN.out]; exact HA2⟩, natlt hlt2⟩
                · have hlt2' : ¬ ((j2 : Int) < (l1.length : Int)) := by omega
                  have ej : l1.take j2 = l1 := List.take_of_length_le (by omega)
                  rw [ej] at HI ⊢
                  obtain ⟨hsp1, hsp2⟩ := ok_split (s := a0) rfl (l1 := l1) (l2 := []) (p := ((⟨#[]⟩ : ByteArray), 0)) (by rw [List.append_nil]; exact HOK.out.2.1)
                  rw [List.append_nil, bldE] at hsp2
                  rw [okE] at hsp1
                  have hsp3 : (preE a0 ((⟨#[]⟩ : ByteArray), 0) l1).1 ++ a0.extract (preE a0 ((⟨#[]⟩ : ByteArray), 0) l1).2.toNat a0.size = bldE a0 0 l1 := by rw [hsp2]; exact ByteArray.empty_append
                  have hsz : ((preE a0 ((⟨#[]⟩ : ByteArray), 0) l1).1 ++ a0.extract (preE a0 ((⟨#[]⟩ : ByteArray), 0) l1).2.toNat a0.size).size = m := by rw [hsp3]; exact HM.out.symm
                  simp only [Bool.and_eq_true, decide_eq_true_eq] at hsp1
                  obtain ⟨q1, q2⟩ := hsp1
                  have HBL := Lib.hid hsp3
                  clear hsp2 hsp3 ej
                  generalize (preE a0 ((⟨#[]⟩ : ByteArray), 0) l1).1 = T at hsz HI HBL ⊢
                  generalize (preE a0 ((⟨#[]⟩ : ByteArray), 0) l1).2 = fr at q1 q2 hsz HBL ⊢
                  have hsz2 := hsz
                  rw [ByteArray.size_append] at hsz2
                  have hTm : (T.size : Int) ≤ (m : Int) := by omega
                  have hT0 : (0 : Int) ≤ (T.size : Int) := by omega
                  obtain ⟨W1, n1, hn1, hcp1, hA1, hk1⟩ := api_copy (api_drew HI.out) (a0.extract fr.toNat a0.size) (by omega)
                  rw [HBL.out] at hA1
                  clear hn1 hk1 hsz hsz2
                  obtain ⟨_, _, hBW, cur, hcu, hcs, hct⟩ := hA1
                  rw [← HM.out] at hct
                  have hall : cur.toList = Lib.byteCells (bldE a0 0 l1).data.toList := by rw [← hct, List.take_of_length_le (by simp; omega)]
                  have hcell : ∀ i, i < m → W1.cell? ⟨wq.heap.size, 0 + i, none⟩ = some (.int .u8 ((bytesOf (bldE a0 0 l1)).getD i 0)) := by
                    intro i hi
                    have h1 : cur[i]? = (Lib.byteCells (bldE a0 0 l1).data.toList)[i]? := by rw [← hall, Array.getElem?_toList]
                    have hi' : i < (bldE a0 0 l1).data.toList.length := by rw [data_length, ← HM.out]; exact hi
                    rw [Nat.zero_add]
                    simp only [World.cell?, hcu, h1]
                    simp [Lib.byteCells, bytesOf, List.getD_eq_getElem?_getD, List.getElem?_eq_getElem hi']
                  have hcv := run_convert_bytes_arg (P := Try.prog) (w := W1) 41 5 Try.underlying41 Try.underlying5 wq.heap.size 0 m m (bytesOf (bldE a0 0 l1)) (by rw [bytesOf_length, ← HM.out]) hcell 9 Try.underlying9
                  rw [strOfNums_bytesOf] at hcv
                  have HBW := Lib.hid hBW
                  clear hBW hcu hcs hct hall hcell
                  go_wp2_with fail
                  refine start_ (n := 7) (S := fun w' => (0 : Nat) = 0) (ds := []) #[false, false, false, false, false, false, false] (by kernel_rfl) rfl rfl (rfl) (fun hHeld => ?_)
                  refine pure_ (i := 0) (N := some 74) (v := ?_) (a' := ?_) #[true, false, false, false, false, false, false] rfl rfl (by kernel_rfl) (fun _ _ _ h => h) (Or.inl ⟨by rfl, ?_⟩) ?_ ?_
                  rotate_left
                  · intro w'
                    go_simp
                    with_reducible rfl
                  rotate_left
                  · simp only [Act.put, List.setIfInBounds_toArray, List.set_cons_zero, List.set_cons_succ, i64_w, i32_w]
                    rfl
                  refine pure_ (i := 1) (N := some 75) (v := ?_) (a' := ?_) #[true, true, false, false, false, false, false] rfl rfl (by kernel_rfl) (fun _ _ _ h => h) (Or.inl ⟨by rfl, ?_⟩) ?_ ?_
                  rotate_left
                  · intro w'
                    go_simp
                    with_reducible rfl
                  rotate_left
                  · simp only [Act.put, List.setIfInBounds_toArray, List.set_cons_zero, List.set_cons_succ, i64_w, i32_w]
                    rfl
                  refine pure_ (i := 2) (N := some 76) (v := ?_) (a' := ?_) #[true, true, true, false, false, false, false] rfl rfl (by kernel_rfl) (fun _ _ _ h => h) (Or.inl ⟨by rfl, ?_⟩) ?_ ?_
                  rotate_left
                  · intro w'
                    go_simp
                    with_reducible rfl
                  rotate_left
                  · simp only [Act.put, List.setIfInBounds_toArray, List.set_cons_zero, List.set_cons_succ, i64_w, i32_w]
                    rfl
                  refine pure_ (i := 3) (N := some 77) (v := ?_) (a' := ?_) #[true, true, true, true, false, false, false] rfl rfl (by kernel_rfl) (fun _ _ _ h => h) (Or.inl ⟨by rfl, ?_⟩) ?_ ?_
                  rotate_left
                  · intro w'
                    go_simp
                    with_reducible rfl
                  rotate_left
                  · simp only [Act.put, List.setIfInBounds_toArray, List.set_cons_zero, List.set_cons_succ, i64_w, i32_w]
                    rfl
                  refine pure_ (i := 4) (N := some 78) (v := ?_) (a' := ?_) #[true, true, true, true, true, false, false] rfl rfl (by kernel_rfl) (fun _ _ _ h => h) (Or.inl ⟨by rfl, ?_⟩) ?_ ?_
                  rotate_left
                  · intro w'
                    go_simp
                    with_reducible rfl
                  rotate_left
                  · simp only [Act.put, List.setIfInBounds_toArray, List.set_cons_zero, List.set_cons_succ, i64_w, i32_w]
                    rfl
                  refine pure_ (i := 5) (N := some 79) (v := ?_) (a' := ?_) #[true, true, true, true, true, true, false] rfl rfl (by kernel_rfl) (fun _ _ _ h => h) (Or.inl ⟨by rfl, ?_⟩) ?_ ?_
                  rotate_left
                  · intro w'
                    go_simp
                    with_reducible rfl
                  rotate_left
                  · simp only [Act.put, List.setIfInBounds_toArray, List.set_cons_zero, List.set_cons_succ, i64_w, i32_w]
                    rfl
                  refine one_ (i := 6) (N := some 80) #[true, true, true, true, true, true, true] rfl rfl (by kernel_rfl) (by decide) (fun K hK => ?_)
                  refine value_ (w1 := ?_) (v := ?_) (by rfl) rfl ?_ ?_
                  rotate_left 2
                  · go_simp
                    constructor
                    · rfl
                    · rfl
                  refine hK.out _ _ (rfl) (fun hHeld => ?_)
                  clear hK K
                  refine norm_ (a' := ?_) ?_ ?_
                  rotate_left
                  · show Act.put _ (some 80) _ = _
                    simp only [Act.put, List.setIfInBounds_toArray, List.set_cons_zero, List.set_cons_succ, i64_w, i32_w]
                    rfl
                  refine done_ (by kernel_rfl) ?_

                  clear hcp1 hHeld
                  generalize (if m = T.size then (some ⟨wq.heap.size, 0, none⟩ : Option Addr) else some ⟨wq.heap.size, T.size, none⟩) = sa1
                  go_wp2
                  go_ret2
                  exact ⟨rfl, HBW.out⟩
      · rw [if_neg hok] at h
        exact absurd h (by simp)
    · have h := H.out
      rw [if_neg c1] at h
      simp only [Option.some.injEq, Prod.mk.injEq] at h
      obtain ⟨rfl, rfl⟩ := h
      go_wp2
      go_ret2
      exact ⟨rfl, HB1.out⟩
  · rw [if_neg hs0] at h
    exact absurd h (by simp)


end Go.Proofs.Ytkokiggccbkngaa.PAll
