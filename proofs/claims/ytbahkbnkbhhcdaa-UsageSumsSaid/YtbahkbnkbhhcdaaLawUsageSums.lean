-- Printed by this session's rowgen.py: the row of the law codesearchlaw50_UsageSums. Not trusted: Lean checks it.
import Derived.Test.YtbahkbnkbhhcdaaRows
import Derived.Test.YtbahkbnkbhhcdaaPAllx14
import Derived.Test.YtbahkbnkbhhcdaaPureUsageSums
import Derived.Test.YtbahkbnkbhhcdaaRowOpen
import Derived.Test.YtbahkbnkbhhcdaaPAllx0
import Derived.WalkKit
import Derived.ProofKit
import Derived.OpenShut
import Derived.ShutString
import Derived.ChangeOld
import Derived.Below
import Derived.Carry
import Derived.SizedLaws
namespace Go.Proofs.Ytbahkbnkbhhcdaa.usageSums
open Go.ChangeShapes Go.WideShapes Go.ChangeAt Go.RowKit
open Go.ChangeMaps (open_string shut_string)
open Go.Proofs.YtbahkbnkbhhcdaaW.PrintWords Go.Proofs.Ytbahkbnkbhhcdaa.Opn Go.Proofs.Ytbahkbnkbhhcdaa.PAll
set_option linter.unusedVariables false
theorem own : ownKnob Try.prog.godebug = none := by kernel_rfl
theorem laidOut : laidOutB Try.prog = true := by kernel_rfl
theorem o9 : Opn Try.prog 9 Kd.string (fun (x : ByteArray) => x.size ≤ 140737488351232) := opn_string Try.underlying9
theorem o3 : Opn Try.prog 3 (Kd.int .i64) (fun (x : Int) => (Lit.int .i64 x).wf = true) := opn_int Try.underlying3
theorem o34 : Opn Try.prog 34 k34 (fun (x : S34) => (x.f0.size ≤ 140737488351232 ∧ (Lit.int .i64 x.f1).wf = true ∧ (Lit.int .i64 x.f2).wf = true)) := opn_imp (opn_iso (fun x : S34 => (x.f0, x.f1, x.f2)) (fun a => (⟨a.1, a.2.1, a.2.2⟩ : S34)) (fun _ => rfl) (opn_struct Try.underlying34 (by kernel_rfl) (opf_cons rfl (by kernel_rfl) o9 (opf_cons rfl (by kernel_rfl) o3 (opf_one rfl (by kernel_rfl) o3))))) (fun x h => h)
theorem o22 : Opn Try.prog 22 (Kd.slice 34 k34) (fun (x : (List S34)) => (x.length * 32 ≤ 140737488351232 ∧ ∀ x0 ∈ x, (x0.f0.size ≤ 140737488351232 ∧ (Lit.int .i64 x0.f1).wf = true ∧ (Lit.int .i64 x0.f2).wf = true))) := opn_imp (opn_slice Try.underlying22 (by kernel_rfl) o34) (fun xs h => ⟨(show xs.length * 32 ≤ 140737488351232 from h.1), h.2⟩)
theorem o24 : Opn Try.prog 24 k24 (fun (x : S24) => ((x.f0.length * 32 ≤ 140737488351232 ∧ ∀ x0 ∈ x.f0, (x0.f0.size ≤ 140737488351232 ∧ (Lit.int .i64 x0.f1).wf = true ∧ (Lit.int .i64 x0.f2).wf = true)))) := opn_imp (opn_iso (fun x : S24 => x.f0) (fun a => (⟨a⟩ : S24)) (fun _ => rfl) (opn_struct Try.underlying24 (by kernel_rfl) (opf_one rfl (by kernel_rfl) o22))) (fun x h => h)
set_option maxRecDepth 100000 in
theorem lifted (os : Os) (started : os.Started) (H : Type) (enc : TypeId × Value → H) :
    ReturnsInHanded {} Try.checked os 5 .any (Rows.usageSumsSpec.pre6 enc Try.prog Try.f5 Rows.usageSumsRow.domain false) (Rows.usageSumsSpec.post enc Try.prog Try.f5 false true false false) := by
  refine returnsInHanded_of_change_sized (C := Try.checked) own started (by kernel_rfl) Try.func5
    (ChangeSpec.witness6 (enc := enc) (C := Try.checked) false ⟨#[], #[.agg #[.slice none 0 0], .agg #[.slice none 0 0]], []⟩ 8 (by kernel_rfl) (by kernel_rfl) (by kernel_rfl) (by kernel_rfl)) ?_
  intro W base args ds gs before hval0 hW hcnd hsz0 _
  have hsz : (DataW.weightsEach Try.prog (Try.f5.params.toList ++ Rows.usageSumsSpec.plain.varTypes Try.prog) (ds ++ gs)).all (· ≤ reachBytes) = true := hsz0
  have hval : ∀ (j : Nat) t v, Try.f5.params[j]? = some t → args[j]? = some v → Value.okWide Try.prog W .any base t v := hval0
  have hW' := hW
  obtain ⟨p, q, hA0, hV, rfl, hfz, hnd⟩ := hW
  have hA : DataW.TrodAll enc Try.prog W 0 (fun _ => true) true Try.f5.params.toList args.toList ds p := hA0
  rw [Try.params5] at hA hval hsz
  obtain ⟨v0, vs0, d0, ds0, p0, q0, hargs, rfl, rfl, h0, r0⟩ := trodAll_cons hA
  obtain ⟨v1, vs1, d1, ds1, p1, q1, rfl, rfl, rfl, h1, r1⟩ := trodAll_cons r0
  obtain ⟨rfl, rfl, rfl⟩ := trodAll_nil r1
  obtain rfl : args = #[v0, v1] := by cases args; simp_all
  obtain ⟨rfl, rfl⟩ := trodVars_none hV
  have lt0 := arg_lt h0
  obtain ⟨x0, K0, F0⟩ := opn_arg o24 h0 hsz 0 rfl rfl
  obtain ⟨cs0, rfl, _⟩ := okWide_struct Try.underlying24 (hval 0 24 v0 rfl rfl)
  obtain ⟨A0_0, c0_0, K0, L0_0, R0_0⟩ := k24_open K0
  replace K0 : cs0.toList = [.slice A0_0 x0.f0.length c0_0] := K0
  obtain rfl : cs0 = #[.slice A0_0 x0.f0.length c0_0] := Array.toList_inj.1 K0
  have lt1 := arg_lt h1
  obtain ⟨x1, K1, F1⟩ := opn_arg o24 h1 hsz 1 rfl rfl
  obtain ⟨cs1, rfl, _⟩ := okWide_struct Try.underlying24 (hval 1 24 v1 rfl rfl)
  obtain ⟨A1_0, c1_0, K1, L1_0, R1_0⟩ := k24_open K1
  replace K1 : cs1.toList = [.slice A1_0 x1.f0.length c1_0] := K1
  obtain rfl : cs1 = #[.slice A1_0 x1.f0.length c1_0] := Array.toList_inj.1 K1
  clear hA0 hval0 hsz0 hsz hval
  obtain ⟨k, hp⟩ := Pure.UsageSums x0 x1 F0 F1
  refine (codesearchlaw50_UsageSums.calls k A0_0 c0_0 x0.f0 A1_0 c1_0 x1.f0 true W R0_0 L0_0 R1_0 L1_0 hp).mono ?_
  rintro e W' ⟨he, bel⟩
  subst he
  exact ⟨_, rfl, _, _, _, [], _, [], hW', trodAll_mk1 (shut_bool Try.underlying4 _), (trodAll_cons_mk (Below.trod laidOut (by kernel_rfl) (of_decide_eq_true (by kernel_rfl)) h0 bel lt0) (trodAll_cons_mk (Below.trod laidOut (by kernel_rfl) (of_decide_eq_true (by kernel_rfl)) h1 bel lt1) trodAll_mk0)), rfl, bel.frame _, fun h => by cases h⟩
theorem over : Rows.usageSumsRow.holds Try.pinned (OpenSpec.ofChange Rows.usageSumsSpec) :=
  OpenClaim.holds_of_wide 5 Try.f5 rfl rfl rfl rfl rfl rfl rfl ⟨rfl, rfl, rfl, rfl, rfl⟩ rfl rfl rfl rfl rfl (by kernel_rfl) Try.func5 (by kernel_rfl)
    (of_decide_eq_true (by kernel_rfl)) (by unfold Func.isWrapper; first | (rw [if_pos (by decide +kernel)]; kernel_rfl) | (rw [if_neg (by decide +kernel)]; exact ⟨rfl, rfl⟩))
    (fun os started H enc _ => lifted os started H enc)
theorem proved : Rows.UsageSumsSaid := over
#print axioms proved
end Go.Proofs.Ytbahkbnkbhhcdaa.usageSums
namespace Go.Proofs.Ytbahkbnkbhhcdaa
/-- The row, under a short name, for the claim. -/
theorem usageSums_holds : Rows.UsageSumsSaid := usageSums.proved
end Go.Proofs.Ytbahkbnkbhhcdaa
