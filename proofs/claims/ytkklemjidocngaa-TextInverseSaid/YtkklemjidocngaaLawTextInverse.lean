-- Printed by this session's rowgen.py: the row of the law codesearchlaw01_TextInverse. Not trusted: Lean checks it.
import Derived.Test.YtkklemjidocngaaRows
import Derived.Test.YtkklemjidocngaaPAllx18
import Derived.Test.YtkklemjidocngaaPureTextInverse
import Derived.Test.YtkklemjidocngaaRowOpen
import Derived.WalkKit
import Derived.ProofKit
import Derived.OpenShut
import Derived.ShutString
import Derived.ChangeOld
import Derived.Below
import Derived.Carry
import Derived.SizedLaws
namespace Go.Proofs.Ytkklemjidocngaa.textInverse
open Go.ChangeShapes Go.WideShapes Go.ChangeAt Go.RowKit
open Go.ChangeMaps (open_string shut_string)
open Go.Proofs.YtkklemjidocngaaW.PrintWords Go.Proofs.Ytkklemjidocngaa.Opn Go.Proofs.Ytkklemjidocngaa.PAll
set_option linter.unusedVariables false
theorem own : ownKnob Try.prog.godebug = none := by kernel_rfl
theorem laidOut : laidOutB Try.prog = true := by kernel_rfl
theorem o9 : Opn Try.prog 9 Kd.string (fun (x : ByteArray) => x.size ≤ 140737488351232) := opn_string Try.underlying9
theorem o3 : Opn Try.prog 3 (Kd.int .i64) (fun (x : Int) => (Lit.int .i64 x).wf = true) := opn_int Try.underlying3
theorem o32 : Opn Try.prog 32 (Kd.pair (Kd.int .i64) (Kd.int .i64)) (fun (x : (Int × Int)) => ((Lit.int .i64 x.1).wf = true ∧ (Lit.int .i64 x.2).wf = true)) := opn_imp (opn_struct Try.underlying32 (by kernel_rfl) (opf_cons rfl (by kernel_rfl) o3 (opf_one rfl (by kernel_rfl) o3))) (fun x h => h)
set_option maxRecDepth 100000 in
theorem lifted (os : Os) (started : os.Started) (H : Type) (enc : TypeId × Value → H) :
    ReturnsInHanded {} Try.checked os 8 .any (Rows.textInverseSpec.pre6 enc Try.prog Try.f8 Rows.textInverseRow.domain false) (Rows.textInverseSpec.post enc Try.prog Try.f8 false true false false) := by
  refine returnsInHanded_of_change_sized (C := Try.checked) own started (by kernel_rfl) Try.func8
    (ChangeSpec.witness6 (enc := enc) (C := Try.checked) false ⟨#[], #[.string ByteArray.empty, .agg #[.int .i64 0, .int .i64 0]], []⟩ 8 (by kernel_rfl) (by kernel_rfl) (by kernel_rfl) (by kernel_rfl)) ?_
  intro W base args ds gs before hval0 hW hcnd hsz0 _
  have hsz : (DataW.weightsEach Try.prog (Try.f8.params.toList ++ Rows.textInverseSpec.plain.varTypes Try.prog) (ds ++ gs)).all (· ≤ reachBytes) = true := hsz0
  have hval : ∀ (j : Nat) t v, Try.f8.params[j]? = some t → args[j]? = some v → Value.okWide Try.prog W .any base t v := hval0
  have hW' := hW
  obtain ⟨p, q, hA0, hV, rfl, hfz, hnd⟩ := hW
  have hA : DataW.TrodAll enc Try.prog W 0 (fun _ => true) true Try.f8.params.toList args.toList ds p := hA0
  rw [Try.params8] at hA hval hsz
  obtain ⟨v0, vs0, d0, ds0, p0, q0, hargs, rfl, rfl, h0, r0⟩ := trodAll_cons hA
  obtain ⟨v1, vs1, d1, ds1, p1, q1, rfl, rfl, rfl, h1, r1⟩ := trodAll_cons r0
  obtain ⟨rfl, rfl, rfl⟩ := trodAll_nil r1
  obtain rfl : args = #[v0, v1] := by cases args; simp_all
  obtain ⟨rfl, rfl⟩ := trodVars_none hV
  have lt0 := arg_lt h0
  obtain ⟨x0, K0, F0⟩ := opn_arg o9 h0 hsz 0 rfl rfl
  obtain ⟨y0, rfl⟩ := okWide_string Try.underlying9 (hval 0 9 v0 rfl rfl)
  replace K0 : [Value.string y0] = [Value.string x0] := K0
  obtain rfl : y0 = x0 := by injection K0 with K0; injection K0
  have lt1 := arg_lt h1
  obtain ⟨x1, K1, F1⟩ := opn_arg o32 h1 hsz 1 rfl rfl
  obtain ⟨cs1, rfl, _⟩ := okWide_struct Try.underlying32 (hval 1 32 v1 rfl rfl)
  replace K1 : ((Kd.pair (Kd.int .i64) (Kd.int .i64))).K W x1 cs1.toList := K1
  have K1' : cs1.toList = [.int .i64 x1.1, .int .i64 x1.2] := by
    revert K1; generalize cs1.toList = l; intro K1
    replace K1 : ((Kd.pair (Kd.int .i64) (Kd.int .i64))).K W x1 l := K1
    obtain ⟨_, _, rfl, rfl, rfl⟩ := K1
    rfl
  have K1 := K1'
  clear K1'
  replace K1 : cs1.toList = [.int .i64 x1.1, .int .i64 x1.2] := K1
  obtain rfl : cs1 = #[.int .i64 x1.1, .int .i64 x1.2] := Array.toList_inj.1 K1
  clear hA0 hval0 hsz0 hsz hval
  obtain ⟨k, hp⟩ := Pure.TextInverse y0 x1 F0 F1
  refine (codesearchlaw01_TextInverse.calls k y0 x1.1 x1.2 true W  hp).mono ?_
  rintro e W' ⟨he, bel⟩
  subst he
  exact ⟨_, rfl, _, _, _, [], _, [], hW', trodAll_mk1 (shut_bool Try.underlying4 _), (trodAll_cons_mk (Below.trod laidOut (by kernel_rfl) (of_decide_eq_true (by kernel_rfl)) h0 bel lt0) (trodAll_cons_mk (Below.trod laidOut (by kernel_rfl) (of_decide_eq_true (by kernel_rfl)) h1 bel lt1) trodAll_mk0)), rfl, bel.frame _, fun h => by cases h⟩
theorem over : Rows.textInverseRow.holds Try.pinned (OpenSpec.ofChange Rows.textInverseSpec) :=
  OpenClaim.holds_of_wide 8 Try.f8 rfl rfl rfl rfl rfl rfl rfl ⟨rfl, rfl, rfl, rfl, rfl⟩ rfl rfl rfl rfl rfl (by kernel_rfl) Try.func8 (by kernel_rfl)
    (of_decide_eq_true (by kernel_rfl)) (by unfold Func.isWrapper; first | (rw [if_pos (by decide +kernel)]; kernel_rfl) | (rw [if_neg (by decide +kernel)]; exact ⟨rfl, rfl⟩))
    (fun os started H enc _ => lifted os started H enc)
theorem proved : Rows.TextInverseSaid := over
#print axioms proved
end Go.Proofs.Ytkklemjidocngaa.textInverse
namespace Go.Proofs.Ytkklemjidocngaa
/-- The row, under a short name, for the claim. -/
theorem textInverse_holds : Rows.TextInverseSaid := textInverse.proved
end Go.Proofs.Ytkklemjidocngaa
