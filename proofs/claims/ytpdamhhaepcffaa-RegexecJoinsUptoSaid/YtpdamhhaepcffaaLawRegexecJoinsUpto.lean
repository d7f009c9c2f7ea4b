-- Printed by this session's rowae.py: the row of the law RegexecJoins. Not trusted: Lean checks it.
import Derived.Test.YtpdamhhaepcffaaRows
import Derived.Test.YtpdamhhaepcffaaMG
import Derived.Test.YtpdamhhaepcffaaME
import Derived.WalkKit
import Derived.ProofKit
import Derived.OpenShut
import Derived.ShutString
import Derived.ChangeOld
import Derived.Below
import Derived.Carry
import Derived.SizedLaws
namespace Go.Proofs.Ytpdamhhaepcffaa.regexecJoins
open Go.ChangeShapes Go.WideShapes Go.ChangeAt Go.RowKit
open Go.ChangeMaps (open_string shut_string)
open Go.Proofs.Ytpdamhhaepcffaa.AE
set_option linter.unusedVariables false
theorem own : ownKnob Try.prog.godebug = none := by kernel_rfl
theorem laidOut : laidOutB Try.prog = true := by kernel_rfl
set_option maxRecDepth 100000 in
theorem lifted (os : Os) (started : os.Started) (H : Type) (enc : TypeId × Value → H) (F : Stop.Interp) :
    ReturnsInHanded {} Try.checked os 7 .any ((Rows.OpenSpec.upto Rows.regexecJoinsSpec).pre6 enc Try.prog Try.f7 Rows.regexecJoinsUptoRow.domain false) (((Rows.OpenSpec.upto Rows.regexecJoinsSpec).at F).post enc Try.prog Try.f7 false true false false) := by
  refine returnsInHanded_of_cond_sized (C := Try.checked) (s := (Rows.OpenSpec.upto Rows.regexecJoinsSpec)) (k := Rows.uptoSmall) rfl own started (by kernel_rfl) Try.func7
    (OpenSpec.witness (enc := enc) (C := Try.checked) (s := (Rows.OpenSpec.upto Rows.regexecJoinsSpec)) (k := Rows.uptoSmall) rfl false ⟨#[], #[.agg #[.int .i64 0, .slice none 0 0, .int .i64 0, .int .i64 0, .slice none 0 0, .int .i64 0, .slice none 0 0, .int .i64 0, .int .i64 0, .slice none 0 0], .string ByteArray.empty, .int .i64 0], []⟩ 8 (by kernel_rfl) (by kernel_rfl) (by kernel_rfl) (x := ([DataW.agg [DataW.agg [DataW.lit (.int .i64 0), DataW.nil, DataW.lit (.int .i64 0), DataW.lit (.int .i64 0), DataW.nil], DataW.agg [DataW.lit (.int .i64 0), DataW.nil, DataW.lit (.int .i64 0), DataW.lit (.int .i64 0), DataW.nil]], DataW.lit (.string []), DataW.lit (.int .i64 0)], [], [])) (by kernel_rfl) rfl rfl) ?_
  intro W base args ds gs before hval0 hW hcnd hup hsz0 _
  have hsz : (DataW.weightsEach Try.prog (Try.f7.params.toList ++ Rows.regexecJoinsSpec.plain.varTypes Try.prog) (ds ++ gs)).all (· ≤ reachBytes) = true := hsz0
  have hval : ∀ (j : Nat) t v, Try.f7.params[j]? = some t → args[j]? = some v → Value.okWide Try.prog W .any base t v := hval0
  have hW' := hW
  obtain ⟨p, q, hA0, hV, rfl, hfz, hnd⟩ := hW
  have hA : DataW.TrodAll enc Try.prog W 0 (fun _ => true) true Try.f7.params.toList args.toList ds p := hA0
  rw [Try.params7] at hA hval hsz
  obtain ⟨v0, vs0, d0, ds0, p0, q0, hargs, rfl, rfl, h0, r0⟩ := trodAll_cons hA
  obtain ⟨v1, vs1, d1, ds1, p1, q1, rfl, rfl, rfl, h1, r1⟩ := trodAll_cons r0
  obtain ⟨v2, vs2, d2, ds2, p2, q2, rfl, rfl, rfl, h2, r2⟩ := trodAll_cons r1
  obtain ⟨rfl, rfl, rfl⟩ := trodAll_nil r2
  obtain rfl : args = #[v0, v1, v2] := by cases args; simp_all
  obtain ⟨rfl, rfl⟩ := trodVars_none hV
  have hb : ∀ d ∈ [d0, d1, d2], bk d ≤ 1048576 := fun d hd => Nat.le_trans (bkAll_mem hd) (of_decide_eq_true hup)
  have lt0 := arg_lt h0
  obtain ⟨cs0, rfl⟩ := okWide_row Try.underlying39 (hval 0 39 v0 rfl rfl)
  obtain ⟨D0, m0, x0, rfl, F0⟩ := opb_argA o39b h0 hsz 0 rfl rfl
  have lt1 := arg_lt h1
  obtain ⟨y1, rfl⟩ := okWide_string Try.underlying9 (hval 1 9 v1 rfl rfl)
  obtain ⟨D1, m1, x1, e1⟩ := opi_arg o9 h1 rfl hsz 1 rfl rfl
  obtain rfl := (List.cons.inj e1).1
  have lt2 := arg_lt h2
  obtain ⟨y2, rfl⟩ := okWide_int Try.underlying3 (hval 2 3 v2 rfl rfl)
  obtain ⟨D2, m2, x2, e2, F2⟩ := opi_arg o3 h2 rfl hsz 2 rfl rfl
  obtain rfl := (List.cons.inj e2).1
  clear hA0 hval0 hsz0 hsz hval
  refine (law_calls run_ok (law7 x0.1 x0.2 x1 x2 F0.1 F0.2.1 (Nat.le_trans F0.2.2 (hb _ (by simp)))) (.cons m0 (.cons m1 (.cons m2 .nil)))).mono ?_
  rintro e W' ⟨he, bel⟩
  subst he
  exact ⟨_, rfl, _, _, _, [], _, [], hW', trodAll_mk1 (shut_bool Try.underlying4 _), (trodAll_cons_mk (Below.trod laidOut (by kernel_rfl) (of_decide_eq_true (by kernel_rfl)) h0 bel lt0) (trodAll_cons_mk (Below.trod laidOut (by kernel_rfl) (of_decide_eq_true (by kernel_rfl)) h1 bel lt1) (trodAll_cons_mk (Below.trod laidOut (by kernel_rfl) (of_decide_eq_true (by kernel_rfl)) h2 bel lt2) trodAll_mk0))), rfl, bel.frame _, fun h => by cases h⟩
theorem over : Rows.regexecJoinsUptoRow.holds Try.pinned (Rows.OpenSpec.upto Rows.regexecJoinsSpec) :=
  OpenClaim.holds_of_cond 7 Try.f7 rfl rfl rfl rfl rfl rfl rfl ⟨rfl, rfl, rfl, rfl, rfl⟩ rfl rfl rfl rfl rfl (by kernel_rfl) Try.func7 (by kernel_rfl)
    (of_decide_eq_true (by kernel_rfl)) (by unfold Func.isWrapper; first | (rw [if_pos (by decide +kernel)]; kernel_rfl) | (rw [if_neg (by decide +kernel)]; exact ⟨rfl, rfl⟩))
    (fun os started H enc _ F => lifted os started H enc F)
theorem proved : Rows.RegexecJoinsUptoSaid := over
#print axioms proved
end Go.Proofs.Ytpdamhhaepcffaa.regexecJoins
namespace Go.Proofs.Ytpdamhhaepcffaa
/-- The row, under a short name, for the claim. -/
theorem regexecJoinsUpto_holds : Rows.RegexecJoinsUptoSaid := regexecJoins.proved
end Go.Proofs.Ytpdamhhaepcffaa
