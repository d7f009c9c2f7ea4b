-- Written by this session's program hprint.py over the kit's print. Not trusted: Lean checks it.
import Derived.Test.YtcoidmhdkhpalaaPAllx0
import Derived.Lib.Hide
import Derived.RangeFuncRecord
import Derived.Outline
import Derived.WalkSpells
namespace Go.Proofs.Ytcoidmhdkhpalaa.PAll
open Go.RowKit Go.Proofs.YtcoidmhdkhpalaaW.PrintWords Go.Proofs.YtcoidmhdkhpalaaW.PrintLast Go.Proofs.YtcoidmhdkhpalaaW.PrintMore
attribute [local go_sem] max2_int min2_int max_two min_two max_three min_three max_four min_four   -- for this text's walks alone
set_option linter.unusedVariables false
set_option linter.unusedSimpArgs false

--HAND notify_clone.tpl
--HANDIMPORT Derived.Lib.Hide
--HANDIMPORT Derived.RangeFuncRecord
--HANDIMPORT Derived.Outline
--HANDIMPORT Derived.WalkSpells

/-! ### api_Letter_28: function 28 -/
set_option maxRecDepth 100000 in
set_option maxHeartbeats 4000000 in
theorem cloneL_calls (A : Option Addr) (c : Nat) (l : List S38) (w : World) (hC : Kd.C k38 w A l.length l) (hc : l.length ≤ c) (hl : l.length ≤ 1099511627776) :
    Calls Try.prog 28 #[.slice A l.length c] w fun e w' => ∃ v : Value, e = .returned v ∧ Kd.R k38 38 w' w.heap.size (fun _ => True) v l ∧ Below w.heap.size w w' := by
  have HC := Lib.hid hC; clear hC
  have q22 : ∀ (w : World) (a : Option Addr) (n c : Nat), (binOp .eql 22 (.slice a n c) (.slice none 0 0)).run Try.prog w = .ok (.bool a.isNone) w := fun w a n c => Lib.run_eql_slice_nil w _ _ a n c 0 0 Try.underlying22
  go_enter Try.func28, Try.ntmps28
  cases A with
  | none =>
    have h0 : l = [] := by
      rcases l with _ | ⟨x, l⟩
      · rfl
      · obtain ⟨ad, h, _⟩ := HC.out.2.2 (by simp); cases h
    subst h0
    go_wp2
    go_ret
    exact ⟨_, rfl, Kd.R_nil _ _ _ _ _, Below.refl _ _⟩
  | some ad =>
    have hm := HC.out.2.1
    have hR0 : Kd.R k38 38 (w.alloc (.cells #[] 38)) w.heap.size (fun _ => True) (.slice (some ⟨w.heap.size, 0, none⟩) 0 0) [] :=
      ⟨fun _ _ => trivial, [], ⟨rfl, .inr ⟨w.heap.size, 0, #[], rfl, Nat.le_refl _, World.alloc_heap_new w _, Nat.le_refl _, Nat.zero_le _, rfl, rfl⟩⟩, rfl, fun j p hj => by simp at hj⟩
    have hC1 := Kd.C_below HC.out ((Below.refl _ _).alloc (Nat.le_refl _) (.cells #[] 38))
    have HR0 := Lib.hid hR0; clear hR0
    have HC1 := Lib.hid hC1; clear hC1
    go_wp2_with (at_builtin; refine Kd.R_append_rows k38 (w0 := w) w.heap.size rfl (.tmp 5) (.tmp 6) 22 38 _ 64 rfl Try.underlying22 info38 rfl (by decide) (by decide) _ [] l (some ad) l.length c (fun _ => True) (fun _ => False) rfl rfl HR0.out HC1.out (fun x cs h => by rw [k38_open h]; exact k38_mkM _ _ _ _) (fun _ h => h.elim) (fun _ _ => trivial) ((Below.refl _ _).alloc (Nat.le_refl _) _) (by simp) (by simp; omega) ?_; intro v1 w1 ho hb1 hg1 hat1)
    go_ret
    exact ⟨_, rfl, by simpa using ho, hb1⟩
set_option maxRecDepth 100000 in
set_option maxHeartbeats 4000000 in
theorem cloneA_calls (A : Option Addr) (c : Nat) (l : List S36) (w : World) (hC : Kd.C k36 w A l.length l) (hc : l.length ≤ c) (hl : l.length ≤ 1099511627776) :
    Calls Try.prog 29 #[.slice A l.length c] w fun e w' => ∃ v : Value, e = .returned v ∧ Kd.R k36 36 w' w.heap.size (fun _ => True) v l ∧ Below w.heap.size w w' := by
  have HC := Lib.hid hC; clear hC
  have q22 : ∀ (w : World) (a : Option Addr) (n c : Nat), (binOp .eql 25 (.slice a n c) (.slice none 0 0)).run Try.prog w = .ok (.bool a.isNone) w := fun w a n c => Lib.run_eql_slice_nil w _ _ a n c 0 0 Try.underlying25
  go_enter Try.func29, Try.ntmps29
  cases A with
  | none =>
    have h0 : l = [] := by
      rcases l with _ | ⟨x, l⟩
      · rfl
      · obtain ⟨ad, h, _⟩ := HC.out.2.2 (by simp); cases h
    subst h0
    go_wp2
    go_ret
    exact ⟨_, rfl, Kd.R_nil _ _ _ _ _, Below.refl _ _⟩
  | some ad =>
    have hm := HC.out.2.1
    have hR0 : Kd.R k36 36 (w.alloc (.cells #[] 36)) w.heap.size (fun _ => True) (.slice (some ⟨w.heap.size, 0, none⟩) 0 0) [] :=
      ⟨fun _ _ => trivial, [], ⟨rfl, .inr ⟨w.heap.size, 0, #[], rfl, Nat.le_refl _, World.alloc_heap_new w _, Nat.le_refl _, Nat.zero_le _, rfl, rfl⟩⟩, rfl, fun j p hj => by simp at hj⟩
    have hC1 := Kd.C_below HC.out ((Below.refl _ _).alloc (Nat.le_refl _) (.cells #[] 36))
    have HR0 := Lib.hid hR0; clear hR0
    have HC1 := Lib.hid hC1; clear hC1
    go_wp2_with (at_builtin; refine Kd.R_append_rows k36 (w0 := w) w.heap.size rfl (.tmp 5) (.tmp 6) 25 36 _ 48 rfl Try.underlying25 info36 rfl (by decide) (by decide) _ [] l (some ad) l.length c (fun _ => True) (fun _ => False) rfl rfl HR0.out HC1.out (fun x cs h => by rw [k36_open h]; exact k36_mkM _ _ _ _) (fun _ h => h.elim) (fun _ _ => trivial) ((Below.refl _ _).alloc (Nat.le_refl _) _) (by simp) (by simp; omega) ?_; intro v1 w1 ho hb1 hg1 hat1)
    go_ret
    exact ⟨_, rfl, by simpa using ho, hb1⟩
def api_Letter_28.f (l : List S38) : Option (List S38) := if l.length ≤ 1099511627776 then some l else none
theorem api_Letter_28.calls (A0 : Option Addr) (c0 : Nat) (l0 : List S38) (r : List S38) (w : World) (hr0 : Kd.C k38 w A0 l0.length l0) (hc0 : l0.length ≤ c0) (h : api_Letter_28.f l0 = some r) :
    Calls Try.prog 28 #[.slice A0 l0.length c0] w fun e w' => ∃ v0_ : Value, e = .returned v0_ ∧ Kd.R k38 38 w' w.heap.size (fun _ => True) v0_ r ∧ Below w.heap.size w w' := by
  unfold api_Letter_28.f at h
  split at h
  · obtain rfl := Option.some.inj h
    exact cloneL_calls A0 c0 l0 w hr0 hc0 (by assumption)
  · cases h
def api_Alert.f (l : List S36) : Option (List S36) := if l.length ≤ 1099511627776 then some l else none
theorem api_Alert.calls (A0 : Option Addr) (c0 : Nat) (l0 : List S36) (r : List S36) (w : World) (hr0 : Kd.C k36 w A0 l0.length l0) (hc0 : l0.length ≤ c0) (h : api_Alert.f l0 = some r) :
    Calls Try.prog 29 #[.slice A0 l0.length c0] w fun e w' => ∃ v0_ : Value, e = .returned v0_ ∧ Kd.R k36 36 w' w.heap.size (fun _ => True) v0_ r ∧ Below w.heap.size w w' := by
  unfold api_Alert.f at h
  split at h
  · obtain rfl := Option.some.inj h
    exact cloneA_calls A0 c0 l0 w hr0 hc0 (by assumption)
  · cases h


end Go.Proofs.Ytcoidmhdkhpalaa.PAll
