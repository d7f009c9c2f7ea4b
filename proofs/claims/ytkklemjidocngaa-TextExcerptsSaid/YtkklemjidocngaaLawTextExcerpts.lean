-- Printed by this session's rowgen.py: the row of the law codesearchlaw01_TextExcerpts. Not trusted: Lean checks it.
import Derived.Test.YtkklemjidocngaaRows
import Derived.Test.YtkklemjidocngaaPAllx18
import Derived.Test.YtkklemjidocngaaPureTextExcerpts
import Derived.Test.YtkklemjidocngaaRowOpen
import Derived.Test.YtkklemjidocngaaPAllx0
import Derived.WalkKit
import Derived.ProofKit
import Derived.OpenShut
import Derived.ShutString
import Derived.ChangeOld
import Derived.Below
import Derived.Carry
import Derived.SizedLaws
namespace Go.Proofs.Ytkklemjidocngaa.textExcerpts
open Go.ChangeShapes Go.WideShapes Go.ChangeAt Go.RowKit
open Go.ChangeMaps (open_string shut_string)
open Go.Proofs.YtkklemjidocngaaW.PrintWords Go.Proofs.Ytkklemjidocngaa.Opn Go.Proofs.Ytkklemjidocngaa.PAll
set_option linter.unusedVariables false
theorem own : ownKnob Try.prog.godebug = none := by kernel_rfl
theorem laidOut : laidOutB Try.prog = true := by kernel_rfl
theorem o9 : Opn Try.prog 9 Kd.string (fun (x : ByteArray) => x.size ≤ 140737488351232) := opn_string Try.underlying9
theorem o3 : Opn Try.prog 3 (Kd.int .i64) (fun (x : Int) => (Lit.int .i64 x).wf = true) := opn_int Try.underlying3
theorem o42 : Opn Try.prog 42 k42 (fun (x : S42) => ((Lit.int .i64 x.f0).wf = true ∧ (Lit.int .i64 x.f1).wf = true)) := opn_imp (opn_iso (fun x : S42 => (x.f0, x.f1)) (fun a => (⟨a.1, a.2⟩ : S42)) (fun _ => rfl) (opn_struct Try.underlying42 (by kernel_rfl) (opf_cons rfl (by kernel_rfl) o3 (opf_one rfl (by kernel_rfl) o3)))) (fun x h => h)
set_option maxRecDepth 100000 in
theorem lifted (os : Os) (started : os.Started) (H : Type) (enc : TypeId × Value → H) :
    ReturnsInHanded {} Try.checked os 7 .any (Rows.textExcerptsSpec.pre6 enc Try.prog Try.f7 Rows.textExcerptsRow.domain false) (Rows.textExcerptsSpec.post enc Try.prog Try.f7 false true false false) := by
  refine returnsInHanded_of_change_sized (C := Try.checked) own started (by kernel_rfl) Try.func7
    (ChangeSpec.witness6 (enc := enc) (C := Try.checked) false ⟨#[], #[.string ByteArray.empty, .agg #[.int .i64 0, .int .i64 0], .int .i64 0], []⟩ 8 (by kernel_rfl) (by kernel_rfl) (by kernel_rfl) (by kernel_rfl)) ?_
  intro W base args ds gs before hval0 hW hcnd hsz0 _
  have hsz : (DataW.weightsEach Try.prog (Try.f7.params.toList ++ Rows.textExcerptsSpec.plain.varTypes Try.prog) (ds ++ gs)).all (· ≤ reachBytes) = true := hsz0
  have hval : ∀ (j : Nat) t v, Try.f7.params[j]? = some t → args[j]? = some v → Value.okWide Try.prog W .any base t v := hval0
  have hW' := hW
  obtain ⟨p, q, hA0, hV, rfl, hfz, hnd⟩ := hW
  have hA : DataW.TrodAll enc Try.prog W 0 (fun _ => true) true Try.f7.params.toList args.toList ds p := hA0
  rw [Try.params7] at hA hval hsz
  obtain ⟨v0, vs0, d0, ds0, p0, q0, hargs, rfl, rfl, h0, r0⟩ := trodAll_cons hA
  obtain ⟨v1, vs1, d1, ds1, p1, q1, rfl, rfl, rfl, h1, r1⟩ := trodAll_cons r0
  obtain ⟨v2, vs2, d2, ds2, p2, q2, rfl, rfl, rfl, h2, r2⟩ := trodAll_cons r1
  obtain ⟨rfl, rfl, rfl⟩ := trodAll_nil r2
  obtain rfl : args = #[v0, v1, v2] := by cases args; simp_all
  obtain ⟨rfl, rfl⟩ := trodVars_none hV
  have lt0 := arg_lt h0
  obtain ⟨x0, K0, F0⟩ := opn_arg o9 h0 hsz 0 rfl rfl
  obtain ⟨y0, rfl⟩ := okWide_string Try.underlying9 (hval 0 9 v0 rfl rfl)
  replace K0 : [Value.string y0] = [Value.string x0] := K0
  obtain rfl : y0 = x0 := by injection K0 with K0; injection K0
  have lt1 := arg_lt h1
  obtain ⟨x1, K1, F1⟩ := opn_arg o42 h1 hsz 1 rfl rfl
  obtain ⟨cs1, rfl, _⟩ := okWide_struct Try.underlying42 (hval 1 42 v1 rfl rfl)
  obtain K1 := k42_open K1
  replace K1 : cs1.toList = [.int .i64 x1.f0, .int .i64 x1.f1] := K1
  obtain rfl : cs1 = #[.int .i64 x1.f0, .int .i64 x1.f1] := Array.toList_inj.1 K1
  have lt2 := arg_lt h2
  obtain ⟨x2, K2, F2⟩ := opn_arg o3 h2 hsz 2 rfl rfl
  obtain ⟨y2, rfl⟩ := okWide_int Try.underlying3 (hval 2 3 v2 rfl rfl)
  replace K2 : [Value.int .i64 y2] = [Value.int .i64 x2] := K2
  obtain rfl : y2 = x2 := by injection K2 with K2; injection K2
  clear hA0 hval0 hsz0 hsz hval
  obtain ⟨k, hp⟩ := Pure.TextExcerpts y0 x1 y2 F0 F1 F2
  refine (codesearchlaw01_TextExcerpts.calls k y0 x1.f0 x1.f1 y2 true W  hp).mono ?_
  rintro e W' ⟨he, bel⟩
  subst he
  exact ⟨_, rfl, _, _, _, [], _, [], hW', trodAll_mk1 (shut_bool Try.underlying4 _), (trodAll_cons_mk (Below.trod laidOut (by kernel_rfl) (of_decide_eq_true (by kernel_rfl)) h0 bel lt0) (trodAll_cons_mk (Below.trod laidOut (by kernel_rfl) (of_decide_eq_true (by kernel_rfl)) h1 bel lt1) (trodAll_cons_mk (Below.trod laidOut (by kernel_rfl) (of_decide_eq_true (by kernel_rfl)) h2 bel lt2) trodAll_mk0))), rfl, bel.frame _, fun h => by cases h⟩
theorem over : Rows.textExcerptsRow.holds Try.pinned (OpenSpec.ofChange Rows.textExcerptsSpec) :=
  OpenClaim.holds_of_wide 7 Try.f7 rfl rfl rfl rfl rfl rfl rfl ⟨rfl, rfl, rfl, rfl, rfl⟩ rfl rfl rfl rfl rfl (by kernel_rfl) Try.func7 (by kernel_rfl)
    (of_decide_eq_true (by kernel_rfl)) (by unfold Func.isWrapper; first | (rw [if_pos (by decide +kernel)]; kernel_rfl) | (rw [if_neg (by decide +kernel)]; exact ⟨rfl, rfl⟩))
    (fun os started H enc _ => lifted os started H enc)
theorem proved : Rows.TextExcerptsSaid := over
#print axioms proved
end Go.Proofs.Ytkklemjidocngaa.textExcerpts
namespace Go.Proofs.Ytkklemjidocngaa
/-- The row, under a short name, for the claim. -/
theorem textExcerpts_holds : Rows.TextExcerptsSaid := textExcerpts.proved
end Go.Proofs.Ytkklemjidocngaa
