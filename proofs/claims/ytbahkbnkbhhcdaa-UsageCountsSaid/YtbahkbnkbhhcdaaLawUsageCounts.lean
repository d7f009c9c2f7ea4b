-- Printed by this session's rowgen.py: the row of the law codesearchlaw50_UsageCounts. Not trusted: Lean checks it.
import Derived.Test.YtbahkbnkbhhcdaaRows
import Derived.Test.YtbahkbnkbhhcdaaPAllx15
import Derived.Test.YtbahkbnkbhhcdaaPureUsageCounts
import Derived.Test.YtbahkbnkbhhcdaaRowOpen
import Derived.Test.YtbahkbnkbhhcdaaPAllx0
import Derived.WalkKit
import Derived.ProofKit
import Derived.OpenShut
import Derived.ShutString
import Derived.ChangeOld
import Derived.Below
import Derived.Carry
import Derived.SizedLaws
namespace Go.Proofs.Ytbahkbnkbhhcdaa.usageCounts
open Go.ChangeShapes Go.WideShapes Go.ChangeAt Go.RowKit
open Go.ChangeMaps (open_string shut_string)
open Go.Proofs.YtbahkbnkbhhcdaaW.PrintWords Go.Proofs.Ytbahkbnkbhhcdaa.Opn Go.Proofs.Ytbahkbnkbhhcdaa.PAll
set_option linter.unusedVariables false
theorem own : ownKnob Try.prog.godebug = none := by kernel_rfl
theorem laidOut : laidOutB Try.prog = true := by kernel_rfl
theorem o9 : Opn Try.prog 9 Kd.string (fun (x : ByteArray) => x.size ≤ 140737488351232) := opn_string Try.underlying9
theorem o3 : Opn Try.prog 3 (Kd.int .i64) (fun (x : Int) => (Lit.int .i64 x).wf = true) := opn_int Try.underlying3
theorem o47 : Opn Try.prog 47 k47 (fun (x : S47) => (x.f0.size ≤ 140737488351232 ∧ (Lit.int .i64 x.f1).wf = true)) := opn_imp (opn_iso (fun x : S47 => (x.f0, x.f1)) (fun a => (⟨a.1, a.2⟩ : S47)) (fun _ => rfl) (opn_struct Try.underlying47 (by kernel_rfl) (opf_cons rfl (by kernel_rfl) o9 (opf_one rfl (by kernel_rfl) o3)))) (fun x h => h)
theorem o25 : Opn Try.prog 25 (Kd.slice 47 k47) (fun (x : (List S47)) => (x.length * 24 ≤ 140737488351232 ∧ ∀ x0 ∈ x, (x0.f0.size ≤ 140737488351232 ∧ (Lit.int .i64 x0.f1).wf = true))) := opn_imp (opn_slice Try.underlying25 (by kernel_rfl) o47) (fun xs h => ⟨(show xs.length * 24 ≤ 140737488351232 from h.1), h.2⟩)
set_option maxRecDepth 100000 in
theorem lifted (os : Os) (started : os.Started) (H : Type) (enc : TypeId × Value → H) :
    ReturnsInHanded {} Try.checked os 7 .any (Rows.usageCountsSpec.pre6 enc Try.prog Try.f7 Rows.usageCountsRow.domain false) (Rows.usageCountsSpec.post enc Try.prog Try.f7 false true false false) := by
  refine returnsInHanded_of_change_sized (C := Try.checked) own started (by kernel_rfl) Try.func7
    (ChangeSpec.witness6 (enc := enc) (C := Try.checked) false ⟨#[], #[.slice none 0 0, .string ByteArray.empty], []⟩ 8 (by kernel_rfl) (by kernel_rfl) (by kernel_rfl) (by kernel_rfl)) ?_
  intro W base args ds gs before hval0 hW hcnd hsz0 _
  have hsz : (DataW.weightsEach Try.prog (Try.f7.params.toList ++ Rows.usageCountsSpec.plain.varTypes Try.prog) (ds ++ gs)).all (· ≤ reachBytes) = true := hsz0
  have hval : ∀ (j : Nat) t v, Try.f7.params[j]? = some t → args[j]? = some v → Value.okWide Try.prog W .any base t v := hval0
  have hW' := hW
  obtain ⟨p, q, hA0, hV, rfl, hfz, hnd⟩ := hW
  have hA : DataW.TrodAll enc Try.prog W 0 (fun _ => true) true Try.f7.params.toList args.toList ds p := hA0
  rw [Try.params7] at hA hval hsz
  obtain ⟨v0, vs0, d0, ds0, p0, q0, hargs, rfl, rfl, h0, r0⟩ := trodAll_cons hA
  obtain ⟨v1, vs1, d1, ds1, p1, q1, rfl, rfl, rfl, h1, r1⟩ := trodAll_cons r0
  obtain ⟨rfl, rfl, rfl⟩ := trodAll_nil r1
  obtain rfl : args = #[v0, v1] := by cases args; simp_all
  obtain ⟨rfl, rfl⟩ := trodVars_none hV
  have lt0 := arg_lt h0
  obtain ⟨x0, K0, F0⟩ := opn_arg o25 h0 hsz 0 rfl rfl
  obtain ⟨sa0, sl0, sc0, rfl⟩ := okWide_slice Try.underlying25 (hval 0 25 v0 rfl rfl)
  obtain ⟨sA0, sC0, he0, hl0, hr0⟩ := K0
  obtain ⟨rfl, rfl, rfl⟩ : sa0 = sA0 ∧ sl0 = x0.length ∧ sc0 = sC0 := by injection he0 with he0; injection he0; exact ⟨by assumption, by assumption, by assumption⟩
  have lt1 := arg_lt h1
  obtain ⟨x1, K1, F1⟩ := opn_arg o9 h1 hsz 1 rfl rfl
  obtain ⟨y1, rfl⟩ := okWide_string Try.underlying9 (hval 1 9 v1 rfl rfl)
  replace K1 : [Value.string y1] = [Value.string x1] := K1
  obtain rfl : y1 = x1 := by injection K1 with K1; injection K1
  clear hA0 hval0 hsz0 hsz hval
  obtain ⟨k, hp⟩ := Pure.UsageCounts x0 y1 F0 F1
  refine (codesearchlaw50_UsageCounts.calls k sa0 sc0 x0 y1 true W hr0 hl0 hp).mono ?_
  rintro e W' ⟨he, bel⟩
  subst he
  exact ⟨_, rfl, _, _, _, [], _, [], hW', trodAll_mk1 (shut_bool Try.underlying4 _), (trodAll_cons_mk (Below.trod laidOut (by kernel_rfl) (of_decide_eq_true (by kernel_rfl)) h0 bel lt0) (trodAll_cons_mk (Below.trod laidOut (by kernel_rfl) (of_decide_eq_true (by kernel_rfl)) h1 bel lt1) trodAll_mk0)), rfl, bel.frame _, fun h => by cases h⟩
theorem over : Rows.usageCountsRow.holds Try.pinned (OpenSpec.ofChange Rows.usageCountsSpec) :=
  OpenClaim.holds_of_wide 7 Try.f7 rfl rfl rfl rfl rfl rfl rfl ⟨rfl, rfl, rfl, rfl, rfl⟩ rfl rfl rfl rfl rfl (by kernel_rfl) Try.func7 (by kernel_rfl)
    (of_decide_eq_true (by kernel_rfl)) (by unfold Func.isWrapper; first | (rw [if_pos (by decide +kernel)]; kernel_rfl) | (rw [if_neg (by decide +kernel)]; exact ⟨rfl, rfl⟩))
    (fun os started H enc _ => lifted os started H enc)
theorem proved : Rows.UsageCountsSaid := over
#print axioms proved
end Go.Proofs.Ytbahkbnkbhhcdaa.usageCounts
namespace Go.Proofs.Ytbahkbnkbhhcdaa
/-- The row, under a short name, for the claim. -/
theorem usageCounts_holds : Rows.UsageCountsSaid := usageCounts.proved
end Go.Proofs.Ytbahkbnkbhhcdaa
