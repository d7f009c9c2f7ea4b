-- Printed by this session's rowgen.py: the row of the law codesearchlaw49_NotifyOnce. Not trusted: Lean checks it.
import Derived.Test.YtcoidmhdkhpalaaRows
import Derived.Test.YtcoidmhdkhpalaaPAllx31
import Derived.Test.YtcoidmhdkhpalaaPureNotifyOnce
import Derived.Test.YtcoidmhdkhpalaaRowOpen
import Derived.Test.YtcoidmhdkhpalaaPAllx0
import Derived.WalkKit
import Derived.ProofKit
import Derived.OpenShut
import Derived.ShutString
import Derived.ChangeOld
import Derived.Below
import Derived.Carry
import Derived.SizedLaws
namespace Go.Proofs.Ytcoidmhdkhpalaa.notifyOnce
open Go.ChangeShapes Go.WideShapes Go.ChangeAt Go.RowKit
open Go.ChangeMaps (open_string shut_string)
open Go.Proofs.YtcoidmhdkhpalaaW.PrintWords Go.Proofs.Ytcoidmhdkhpalaa.Opn Go.Proofs.Ytcoidmhdkhpalaa.PAll
set_option linter.unusedVariables false
theorem own : ownKnob Try.prog.godebug = none := by kernel_rfl
theorem laidOut : laidOutB Try.prog = true := by kernel_rfl
theorem o3 : Opn Try.prog 3 (Kd.int .i64) (fun (x : Int) => (Lit.int .i64 x).wf = true) := opn_int Try.underlying3
theorem o9 : Opn Try.prog 9 Kd.string (fun (x : ByteArray) => x.size ≤ 140737488351232) := opn_string Try.underlying9
theorem o36 : Opn Try.prog 36 k36 (fun (x : S36) => ((Lit.int .i64 x.f0).wf = true ∧ (Lit.int .i64 x.f1).wf = true ∧ x.f2.size ≤ 140737488351232 ∧ x.f3.size ≤ 140737488351232)) := opn_imp (opn_iso (fun x : S36 => (x.f0, x.f1, x.f2, x.f3)) (fun a => (⟨a.1, a.2.1, a.2.2.1, a.2.2.2⟩ : S36)) (fun _ => rfl) (opn_struct Try.underlying36 (by kernel_rfl) (opf_cons rfl (by kernel_rfl) o3 (opf_cons rfl (by kernel_rfl) o3 (opf_cons rfl (by kernel_rfl) o9 (opf_one rfl (by kernel_rfl) o9)))))) (fun x h => h)
theorem o25 : Opn Try.prog 25 (Kd.slice 36 k36) (fun (x : (List S36)) => (x.length * 48 ≤ 140737488351232 ∧ ∀ x0 ∈ x, ((Lit.int .i64 x0.f0).wf = true ∧ (Lit.int .i64 x0.f1).wf = true ∧ x0.f2.size ≤ 140737488351232 ∧ x0.f3.size ≤ 140737488351232))) := opn_imp (opn_slice Try.underlying25 (by kernel_rfl) o36) (fun xs h => ⟨(show xs.length * 48 ≤ 140737488351232 from h.1), h.2⟩)
theorem o52 : Opn Try.prog 52 k52 (fun (x : S52) => ((Lit.int .i64 x.f0).wf = true ∧ (Lit.int .i64 x.f1).wf = true ∧ (x.f2.length * 48 ≤ 140737488351232 ∧ ∀ x0 ∈ x.f2, ((Lit.int .i64 x0.f0).wf = true ∧ (Lit.int .i64 x0.f1).wf = true ∧ x0.f2.size ≤ 140737488351232 ∧ x0.f3.size ≤ 140737488351232)))) := opn_imp (opn_iso (fun x : S52 => (x.f0, x.f1, x.f2)) (fun a => (⟨a.1, a.2.1, a.2.2⟩ : S52)) (fun _ => rfl) (opn_struct Try.underlying52 (by kernel_rfl) (opf_cons rfl (by kernel_rfl) o3 (opf_cons rfl (by kernel_rfl) o3 (opf_one rfl (by kernel_rfl) o25))))) (fun x h => h)
theorem o50 : Opn Try.prog 50 (Kd.slice 52 k52) (fun (x : (List S52)) => (x.length * 40 ≤ 140737488351232 ∧ ∀ x0 ∈ x, ((Lit.int .i64 x0.f0).wf = true ∧ (Lit.int .i64 x0.f1).wf = true ∧ (x0.f2.length * 48 ≤ 140737488351232 ∧ ∀ x1 ∈ x0.f2, ((Lit.int .i64 x1.f0).wf = true ∧ (Lit.int .i64 x1.f1).wf = true ∧ x1.f2.size ≤ 140737488351232 ∧ x1.f3.size ≤ 140737488351232))))) := opn_imp (opn_slice Try.underlying50 (by kernel_rfl) o52) (fun xs h => ⟨(show xs.length * 40 ≤ 140737488351232 from h.1), h.2⟩)
set_option maxRecDepth 100000 in
theorem lifted (os : Os) (started : os.Started) (H : Type) (enc : TypeId × Value → H) :
    ReturnsInHanded {} Try.checked os 7 .any (Rows.notifyOnceSpec.pre6 enc Try.prog Try.f7 Rows.notifyOnceRow.domain false) (Rows.notifyOnceSpec.post enc Try.prog Try.f7 false true false false) := by
  refine returnsInHanded_of_change_sized (C := Try.checked) own started (by kernel_rfl) Try.func7
    (ChangeSpec.witness6 (enc := enc) (C := Try.checked) false ⟨#[], #[.slice none 0 0], []⟩ 8 (by kernel_rfl) (by kernel_rfl) (by kernel_rfl) (by kernel_rfl)) ?_
  intro W base args ds gs before hval0 hW hcnd hsz0 _
  have hsz : (DataW.weightsEach Try.prog (Try.f7.params.toList ++ Rows.notifyOnceSpec.plain.varTypes Try.prog) (ds ++ gs)).all (· ≤ reachBytes) = true := hsz0
  have hval : ∀ (j : Nat) t v, Try.f7.params[j]? = some t → args[j]? = some v → Value.okWide Try.prog W .any base t v := hval0
  have hW' := hW
  obtain ⟨p, q, hA0, hV, rfl, hfz, hnd⟩ := hW
  have hA : DataW.TrodAll enc Try.prog W 0 (fun _ => true) true Try.f7.params.toList args.toList ds p := hA0
  rw [Try.params7] at hA hval hsz
  obtain ⟨v0, vs0, d0, ds0, p0, q0, hargs, rfl, rfl, h0, r0⟩ := trodAll_cons hA
  obtain ⟨rfl, rfl, rfl⟩ := trodAll_nil r0
  obtain rfl : args = #[v0] := by cases args; simp_all
  obtain ⟨rfl, rfl⟩ := trodVars_none hV
  have lt0 := arg_lt h0
  obtain ⟨x0, K0, F0⟩ := opn_arg o50 h0 hsz 0 rfl rfl
  obtain ⟨sa0, sl0, sc0, rfl⟩ := okWide_slice Try.underlying50 (hval 0 50 v0 rfl rfl)
  obtain ⟨sA0, sC0, he0, hl0, hr0⟩ := K0
  obtain ⟨rfl, rfl, rfl⟩ : sa0 = sA0 ∧ sl0 = x0.length ∧ sc0 = sC0 := by injection he0 with he0; injection he0; exact ⟨by assumption, by assumption, by assumption⟩
  clear hA0 hval0 hsz0 hsz hval
  obtain ⟨k, hp⟩ := Pure.NotifyOnce x0 F0
  refine (codesearchlaw49_NotifyOnce.calls k sa0 sc0 x0 true W hr0 hl0 hp).mono ?_
  rintro e W' ⟨he, bel⟩
  subst he
  exact ⟨_, rfl, _, _, _, [], _, [], hW', trodAll_mk1 (shut_bool Try.underlying4 _), (trodAll_cons_mk (Below.trod laidOut (by kernel_rfl) (of_decide_eq_true (by kernel_rfl)) h0 bel lt0) trodAll_mk0), rfl, bel.frame _, fun h => by cases h⟩
theorem over : Rows.notifyOnceRow.holds Try.pinned (OpenSpec.ofChange Rows.notifyOnceSpec) :=
  OpenClaim.holds_of_wide 7 Try.f7 rfl rfl rfl rfl rfl rfl rfl ⟨rfl, rfl, rfl, rfl, rfl⟩ rfl rfl rfl rfl rfl (by kernel_rfl) Try.func7 (by kernel_rfl)
    (of_decide_eq_true (by kernel_rfl)) (by unfold Func.isWrapper; first | (rw [if_pos (by decide +kernel)]; kernel_rfl) | (rw [if_neg (by decide +kernel)]; exact ⟨rfl, rfl⟩))
    (fun os started H enc _ => lifted os started H enc)
theorem proved : Rows.NotifyOnceSaid := over
#print axioms proved
end Go.Proofs.Ytcoidmhdkhpalaa.notifyOnce
namespace Go.Proofs.Ytcoidmhdkhpalaa
/-- The row, under a short name, for the claim. -/
theorem notifyOnce_holds : Rows.NotifyOnceSaid := notifyOnce.proved
end Go.Proofs.Ytcoidmhdkhpalaa
