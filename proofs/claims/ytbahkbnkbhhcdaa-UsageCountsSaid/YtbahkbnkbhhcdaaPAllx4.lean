-- Written by this session's program hprint.py over the kit's print. Not trusted: Lean checks it.
import Derived.Test.YtbahkbnkbhhcdaaPAllx0
import Derived.Test.YtbahkbnkbhhcdaaPAllx3
import Derived.Lib.Hide
import Derived.Outline
namespace Go.Proofs.Ytbahkbnkbhhcdaa.PAll
open Go.RowKit Go.Proofs.YtbahkbnkbhhcdaaW.PrintWords Go.Proofs.YtbahkbnkbhhcdaaW.PrintLast Go.Proofs.YtbahkbnkbhhcdaaW.PrintMore
attribute [local go_sem] max2_int min2_int max_two min_two max_three min_three max_four min_four   -- for this text's walks alone
set_option linter.unusedVariables false
set_option linter.unusedSimpArgs false

--HAND usage_top.tpl
--HANDIMPORT Derived.Lib.Hide
--HANDIMPORT Derived.Outline

/-! ### usage_Top: function 20 -/
set_option maxRecDepth 100000 in
set_option maxHeartbeats 4000000 in
theorem cloneC_calls (A : Option Addr) (c : Nat) (l : List S34) (w : World) (hC : Kd.C k34 w A l.length l) (hc : l.length ≤ c) (hl : l.length ≤ 1099511627776) :
    Calls Try.prog 37 #[.slice A l.length c] w fun e w' => ∃ v : Value, e = .returned v ∧ Kd.R k34 34 w' w.heap.size (fun _ => True) v l ∧ Below w.heap.size w w' := by
  have HC := Lib.hid hC; clear hC
  have q22 : ∀ (w : World) (a : Option Addr) (n c : Nat), (binOp .eql 22 (.slice a n c) (.slice none 0 0)).run Try.prog w = .ok (.bool a.isNone) w := fun w a n c => Lib.run_eql_slice_nil w _ _ a n c 0 0 Try.underlying22
  go_enter Try.func37, Try.ntmps37
  cases A with
  | none =>
    have h0 : l = [] := by
      rcases l with _ | ⟨x, l⟩
      · rfl
      · obtain ⟨ad, h, _⟩ := HC.out.2.2 (by simp); cases h
    subst h0
    go_wp2
    go_ret
    exact ⟨_, rfl, Kd.R_nil _ _ _ _ _, Below.refl _ _⟩
  | some ad =>
    have hm := HC.out.2.1
    have hR0 : Kd.R k34 34 (w.alloc (.cells #[] 34)) w.heap.size (fun _ => True) (.slice (some ⟨w.heap.size, 0, none⟩) 0 0) [] :=
      ⟨fun _ _ => trivial, [], ⟨rfl, .inr ⟨w.heap.size, 0, #[], rfl, Nat.le_refl _, World.alloc_heap_new w _, Nat.le_refl _, Nat.zero_le _, rfl, rfl⟩⟩, rfl, fun j p hj => by simp at hj⟩
    have hC1 := Kd.C_below HC.out ((Below.refl _ _).alloc (Nat.le_refl _) (.cells #[] 34))
    have HR0 := Lib.hid hR0; clear hR0
    have HC1 := Lib.hid hC1; clear hC1
    go_wp2_with (at_builtin; refine Kd.R_append_rows k34 (w0 := w) w.heap.size rfl (.tmp 5) (.tmp 6) 22 34 _ 32 rfl Try.underlying22 info34 rfl (by decide) (by decide) _ [] l (some ad) l.length c (fun _ => True) (fun _ => False) rfl rfl HR0.out HC1.out (fun x cs h => by rw [k34_open h]; exact k34_mkM _ _ _ _) (fun _ h => h.elim) (fun _ _ => trivial) ((Below.refl _ _).alloc (Nat.le_refl _) _) (by simp) (by simp; omega) ?_; intro v1 w1 ho hb1 hg1 hat1)
    go_ret
    exact ⟨_, rfl, by simpa using ho, hb1⟩
def cmpT (x y : S34) : Int := wrap64 (y.f1 - x.f1)
set_option maxRecDepth 100000 in
set_option maxHeartbeats 4000000 in
theorem top1_calls (x y : S34) (W : World) : Calls Try.prog 39 #[.agg (encC x).toArray, .agg (encC y).toArray] W fun e w' => e = .returned (.int .i64 (cmpT x y)) ∧ ∃ q os, w' = Sort.grow (W.drewN q) os := by
  unfold encC cmpT
  go_enter Try.func39, Try.ntmps39
  go_wp2
  go_ret
  exact ⟨rfl, 0, _, by rw [Sort.alloc_eq_grow, Sort.alloc_eq_grow, Sort.grow_grow]; rfl⟩
theorem cmpLays39 (blk off size : Nat) (w : World) : CmpLays Try.prog 39 #[] encC 3 cmpT blk off size w := fun _ _ _ _ x y => top1_calls x y _
def sortT (l : List S34) : List S34 := (Sort.insertionSort (ltOf cmpT) l.toArray 0 l.length).toList
theorem insInner_size (lt : S34 → S34 → Bool) (a : Nat) : ∀ (j : Nat) (d : Array S34), (Sort.insInner lt a j d).size = d.size
  | 0, d => by unfold Sort.insInner; rfl
  | j + 1, d => by
    unfold Sort.insInner
    split
    · rw [insInner_size lt a j, Sort.swp_size]
    · rfl
theorem insOuter_size (lt : S34 → S34 → Bool) (a b : Nat) : ∀ (n i : Nat) (d : Array S34), b - i = n → (Sort.insOuter lt a b i d).size = d.size
  | 0, i, d, h => by rw [Sort.insOuter, if_neg (by omega)]
  | n + 1, i, d, h => by rw [Sort.insOuter, if_pos (by omega), insOuter_size lt a b n (i + 1) _ (by omega), insInner_size]
theorem sortT_len (l : List S34) : (sortT l).length = l.length := by
  unfold sortT Sort.insertionSort
  rw [Array.length_toList, insOuter_size _ _ _ _ _ _ rfl]
  simp
set_option maxRecDepth 100000 in
set_option maxHeartbeats 4000000 in
theorem stable_calls (A : Option Addr) (c n : Nat) (l : List S34) (w : World) (h : Kd.R k34 34 w n (fun _ => True) (.slice A l.length c) l) (hl : l.length < 20) :
    Calls Try.prog 46 #[.slice A l.length c, .int .i64 (l.length : Int), .func (.func 39) #[] #[]] w fun e w1 => e = .returned (.tuple #[]) ∧ Below n w w1 ∧ Kd.R k34 34 w1 n (fun _ => True) (.slice A l.length c) (sortT l) := by
  have hcon : Calls Try.prog 52 #[.slice A l.length c, .int .i64 0, .int .i64 (l.length : Int), .func (.func 39) #[] #[]] w fun e w1 => e = .returned (.tuple #[]) ∧ Below n w w1 ∧ Kd.R k34 34 w1 n (fun _ => True) (.slice A l.length c) (sortT l) := by
    rcases cells_of_R h with ⟨rfl, rfl, rfl⟩ | ⟨g, cur, rfl, hg, hb, hlc, hcm, hs, H⟩
    · refine Calls.mono (show Calls Try.prog 52 #[.slice none 0 0, .int .i64 0, .int .i64 0, .func (.func 39) #[] #[]] w _ from AnyF.insertionSortCmpFunc_none Try.insC none 0 _ w) ?_
      rintro e w1 ⟨rfl, rfl⟩
      exact ⟨rfl, Below.refl _ _, by have e0 : sortT [] = [] := List.length_eq_zero_iff.1 (sortT_len []); rw [e0]; exact h⟩
    · have eg : ∀ args w, (callFunc 39 args).run Try.prog w = .ok (.enter 39 args) w := enters_of Try.func39 (by kernel_rfl) rfl
      have hcon := AnyQ.insertionSortCmpFunc Try.insC 3 Try.isAgg34 Try.sizeOf34 encC encC_len encC_one cmpT 39 #[] g 0 c 0 l.length l.toArray w eg (cmpLays39 g 0 _ w) (holdsK_of hb H) (Array.getElem?_eq_some_iff.1 hb).1 (Nat.zero_le _) (by simp) (by simp; omega)
      refine Calls.mono (show Calls Try.prog 52 #[.slice (some ⟨g, 0, none⟩) l.length c, .int .i64 0, .int .i64 (l.length : Int), .func (.func 39) #[] #[]] w _ from hcon) ?_
      rintro e w1 ⟨rfl, m, os, rfl⟩
      have hsl := sortT_len l
      have hd : Sort.insertionSort (ltOf cmpT) l.toArray 0 l.length = (sortT l).toArray := rfl
      rw [hd]
      obtain ⟨cur2, hb2, hs2, H2, hG2⟩ := cells_sorted (n := m) (os := os) (ts := sortT l) hb (by rw [hsl]; omega)
      refine ⟨rfl, (Below.refl n w).grown hG2 ?_ (fun k hk => by injection hk with hk; omega), ?_⟩
      · have := (Array.getElem?_eq_some_iff.1 hb).1; omega
      · have := R_of_cells (c := c) (l := sortT l) hg hb2 (by omega) hcm (by omega) H2
        rw [hsl] at this
        exact this
  have HCON := Lib.hid hcon; clear hcon h
  go_enter Try.func46, Try.ntmps46
  go_wp2
  refine wp_loop_rounds 1 ?_
  rw [rounds_succ]
  go_wp2_with (go_at_call 52; refine HCON.out.mono ?_; rintro e w1 ⟨rfl, hB, hR⟩)
  refine wp_loop_rounds 1 ?_
  rw [rounds_succ]
  go_wp2
  go_end0
  exact ⟨rfl, hB, hR⟩
set_option maxRecDepth 100000 in
set_option maxHeartbeats 4000000 in
theorem sortStable_calls (A : Option Addr) (c n : Nat) (l : List S34) (w : World) (h : Kd.R k34 34 w n (fun _ => True) (.slice A l.length c) l) (hl : l.length < 20) :
    Calls Try.prog 38 #[.slice A l.length c, .func (.func 39) #[] #[]] w fun e w1 => e = .returned (.tuple #[]) ∧ Below n w w1 ∧ Kd.R k34 34 w1 n (fun _ => True) (.slice A l.length c) (sortT l) := by
  have hcon := stable_calls A c n l w h hl
  have HCON := Lib.hid hcon; clear hcon h
  go_enter Try.func38, Try.ntmps38
  go_wp2_with fail
  refine HCON.out.mono ?_
  rintro e w1 ⟨rfl, hB, hR⟩
  go_wp2
  go_end0
  exact ⟨rfl, hB, hR⟩
theorem take_R {w : World} {n c m : Nat} {A : Option Addr} {l : List S34} (h : Kd.R k34 34 w n (fun _ => True) (.slice A l.length c) l) (hm : m ≤ l.length) :
    Kd.R k34 34 w n (fun _ => True) (.slice A m c) (l.take m) := by
  rcases cells_of_R h with ⟨rfl, rfl, rfl⟩ | ⟨g, cur, rfl, hg, hb, hlc, hcm, hs, H⟩
  · obtain rfl : m = 0 := by simpa using hm
    exact h
  · have hl : (l.take m).length = m := by simp; omega
    have := R_of_cells (c := c) (l := l.take m) hg hb (by omega) hcm hs (fun i x hx => by
      rw [List.getElem?_take] at hx
      split at hx
      · exact H i x hx
      · cases hx)
    rw [hl] at this
    exact this
def topN (len : Nat) (n : Int) : Nat := (min (len : Int) (max n 0)).toNat
def usage_Top.f (l : List S34) (n : Int) : Option (List S34) := if l.length < 20 then some ((sortT l).take (topN l.length n)) else none
set_option maxRecDepth 100000 in
set_option maxHeartbeats 4000000 in
theorem usage_Top.calls (A0_0 : Option Addr) (c0_0 : Nat) (l0_0 : List (S34)) (a1 : Int) (r : List (S34)) (w : World) (hr0_0 : Kd.C k34 w A0_0 l0_0.length l0_0) (hc0_0 : l0_0.length ≤ c0_0) (h : usage_Top.f l0_0 a1 = some r) :
    Calls Try.prog 20 #[.agg #[.slice A0_0 l0_0.length c0_0], .int .i64 a1] w fun e w' => ∃ v0_ : Value, e = .returned v0_ ∧ Kd.R k34 34 w' w.heap.size (fun _ => True) v0_ r ∧ Below w.heap.size w w' := by
  unfold usage_Top.f at h
  by_cases hl : l0_0.length < 20
  · rw [if_pos hl] at h
    obtain rfl := Option.some.inj h
    clear h
    have HL := Lib.hid hl; clear hl
    have HR0 := Lib.hid hr0_0; clear hr0_0
    have HC0 := Lib.hid hc0_0; clear hc0_0
    have hB1 : Below w.heap.size w (w.alloc (.cells #[.slice A0_0 l0_0.length c0_0] 24)) := (Below.refl _ _).alloc (Nat.le_refl _) _
    have hcl := cloneC_calls A0_0 c0_0 l0_0 (w.alloc (.cells #[.slice A0_0 l0_0.length c0_0] 24)) (Kd.C_below HR0.out hB1) HC0.out (by have := HL.out; omega)
    have HCL := Lib.hid hcl; clear hcl
    have HB1 := Lib.hid hB1; clear hB1
    go_enter Try.func20, Try.ntmps20
    go_wp2_with fail
    refine HCL.out.mono ?_
    rintro e w1 ⟨v1, rfl, hR1, hB2⟩
    obtain ⟨A1, c1, rfl⟩ := Kd.R_slice hR1
    have HR1 := Lib.hid (Kd.R_lower hR1 HB1.out.size)
    have HB2 := Lib.hid (HB1.out.trans (hB2.mono HB1.out.size))
    have hst := sortStable_calls A1 c1 w.heap.size l0_0 w1 HR1.out HL.out
    have HST := Lib.hid hst
    clear hR1 hB2 hst HCL
    go_wp2_with fail
    refine HST.out.mono ?_
    rintro e w2 ⟨rfl, hB3, hR3⟩
    have HR3 := Lib.hid hR3
    have HB3 := Lib.hid (HB2.out.trans hB3)
    have hls : (l0_0.length : Int) < 20 := by have := HL.out; omega
    clear hB3 hR3 HST
    have hlc : l0_0.length ≤ c1 := by
      rcases cells_of_R HR1.out with ⟨h1, _, _⟩ | ⟨g, cur, _, _, _, h4, _⟩
      · rw [h1]; exact Nat.zero_le _
      · exact h4
    have hT := take_R (m := topN l0_0.length a1) (by rw [← sortT_len l0_0] at HR3; exact HR3.out) (by rw [sortT_len]; unfold topN; omega)
    have HT := Lib.hid hT
    clear hT
    go_wp2_with fail
    all_goals first | (exfalso; omega) | skip
    all_goals
      go_ret
      refine ⟨_, rfl, ?_, HB3.out⟩
      have hT := HT.out
      first
        | (have e : topN l0_0.length a1 = 0 := by unfold topN; omega
           rw [e] at hT ⊢; exact hT)
        | (have e : topN l0_0.length a1 = a1.toNat := by unfold topN; (try (rename_i hq _; split at hq)) <;> omega
           rw [e] at hT ⊢; exact hT)
        | (have e : topN l0_0.length a1 = l0_0.length := by unfold topN; (try (rename_i hq _; split at hq)) <;> omega
           rw [e] at hT ⊢; exact hT)
        | (have e : topN l0_0.length a1 = l0_0.length := by
             rename_i hq hq2
             rw [if_pos hq2] at hq
             unfold topN; omega
           rw [e] at hT ⊢; exact hT)
  · rw [if_neg hl] at h
    exact absurd h (by simp)


end Go.Proofs.Ytbahkbnkbhhcdaa.PAll
