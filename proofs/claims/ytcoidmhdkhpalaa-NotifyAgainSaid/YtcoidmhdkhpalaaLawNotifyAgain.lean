-- Printed by this session's rowgen.py: the row of the law codesearchlaw49_NotifyAgain. Not trusted: Lean checks it.
import Derived.Test.YtcoidmhdkhpalaaRows
import Derived.Test.YtcoidmhdkhpalaaPAllx33
import Derived.Test.YtcoidmhdkhpalaaPureNotifyAgain
import Derived.Test.YtcoidmhdkhpalaaRowOpen
import Derived.Test.YtcoidmhdkhpalaaPAllk
import Derived.Test.YtcoidmhdkhpalaaPAllx0
import Derived.WalkKit
import Derived.ProofKit
import Derived.OpenShut
import Derived.ShutString
import Derived.ChangeOld
import Derived.Below
import Derived.Carry
import Derived.SizedLaws
namespace Go.Proofs.Ytcoidmhdkhpalaa.notifyAgain
open Go.ChangeShapes Go.WideShapes Go.ChangeAt Go.RowKit
open Go.ChangeMaps (open_string shut_string)
open Go.Proofs.YtcoidmhdkhpalaaW.PrintWords Go.Proofs.Ytcoidmhdkhpalaa.Opn Go.Proofs.Ytcoidmhdkhpalaa.PAll
set_option linter.unusedVariables false
theorem own : ownKnob Try.prog.godebug = none := by kernel_rfl
theorem laidOut : laidOutB Try.prog = true := by kernel_rfl
theorem o3 : Opn Try.prog 3 (Kd.int .i64) (fun (x : Int) => (Lit.int .i64 x).wf = true) := opn_int Try.underlying3
theorem o9 : Opn Try.prog 9 Kd.string (fun (x : ByteArray) => x.size ≤ 140737488351232) := opn_string Try.underlying9
theorem o36 : Opn Try.prog 36 k36 (fun (x : S36) => ((Lit.int .i64 x.f0).wf = true ∧ (Lit.int .i64 x.f1).wf = true ∧ x.f2.size ≤ 140737488351232 ∧ x.f3.size ≤ 140737488351232)) := opn_imp (opn_iso (fun x : S36 => (x.f0, x.f1, x.f2, x.f3)) (fun a => (⟨a.1, a.2.1, a.2.2.1, a.2.2.2⟩ : S36)) (fun _ => rfl) (opn_struct Try.underlying36 (by kernel_rfl) (opf_cons rfl (by kernel_rfl) o3 (opf_cons rfl (by kernel_rfl) o3 (opf_cons rfl (by kernel_rfl) o9 (opf_one rfl (by kernel_rfl) o9)))))) (fun x h => h)
theorem o38 : Opn Try.prog 38 k38 (fun (x : S38) => ((Lit.int .i64 x.f0).wf = true ∧ (Lit.int .i64 x.f1).wf = true ∧ ((Lit.int .i64 x.f2.f0).wf = true ∧ (Lit.int .i64 x.f2.f1).wf = true ∧ x.f2.f2.size ≤ 140737488351232 ∧ x.f2.f3.size ≤ 140737488351232))) := opn_imp (opn_iso (fun x : S38 => (x.f0, x.f1, x.f2)) (fun a => (⟨a.1, a.2.1, a.2.2⟩ : S38)) (fun _ => rfl) (opn_struct Try.underlying38 (by kernel_rfl) (opf_cons rfl (by kernel_rfl) o3 (opf_cons rfl (by kernel_rfl) o3 (opf_one rfl (by kernel_rfl) o36))))) (fun x h => h)
theorem o22 : Opn Try.prog 22 (Kd.slice 38 k38) (fun (x : (List S38)) => (x.length * 64 ≤ 140737488351232 ∧ ∀ x0 ∈ x, ((Lit.int .i64 x0.f0).wf = true ∧ (Lit.int .i64 x0.f1).wf = true ∧ ((Lit.int .i64 x0.f2.f0).wf = true ∧ (Lit.int .i64 x0.f2.f1).wf = true ∧ x0.f2.f2.size ≤ 140737488351232 ∧ x0.f2.f3.size ≤ 140737488351232)))) := opn_imp (opn_slice Try.underlying22 (by kernel_rfl) o38) (fun xs h => ⟨(show xs.length * 64 ≤ 140737488351232 from h.1), h.2⟩)
theorem o24 : Opn Try.prog 24 k24 (fun (x : S24) => ((Lit.int .i64 x.f0).wf = true ∧ (Lit.int .i64 x.f1).wf = true ∧ (x.f2.length * 64 ≤ 140737488351232 ∧ ∀ x0 ∈ x.f2, ((Lit.int .i64 x0.f0).wf = true ∧ (Lit.int .i64 x0.f1).wf = true ∧ ((Lit.int .i64 x0.f2.f0).wf = true ∧ (Lit.int .i64 x0.f2.f1).wf = true ∧ x0.f2.f2.size ≤ 140737488351232 ∧ x0.f2.f3.size ≤ 140737488351232))))) := opn_imp (opn_iso (fun x : S24 => (x.f0, x.f1, x.f2)) (fun a => (⟨a.1, a.2.1, a.2.2⟩ : S24)) (fun _ => rfl) (opn_struct Try.underlying24 (by kernel_rfl) (opf_cons rfl (by kernel_rfl) o3 (opf_cons rfl (by kernel_rfl) o3 (opf_one rfl (by kernel_rfl) o22))))) (fun x h => h)
theorem o25 : Opn Try.prog 25 (Kd.slice 36 k36) (fun (x : (List S36)) => (x.length * 48 ≤ 140737488351232 ∧ ∀ x0 ∈ x, ((Lit.int .i64 x0.f0).wf = true ∧ (Lit.int .i64 x0.f1).wf = true ∧ x0.f2.size ≤ 140737488351232 ∧ x0.f3.size ≤ 140737488351232))) := opn_imp (opn_slice Try.underlying25 (by kernel_rfl) o36) (fun xs h => ⟨(show xs.length * 48 ≤ 140737488351232 from h.1), h.2⟩)
theorem o34 : Opn Try.prog 34 k34 (fun (x : S34) => ((Lit.int .i64 x.f0).wf = true ∧ (Lit.int .i64 x.f1).wf = true ∧ (x.f2.length * 48 ≤ 140737488351232 ∧ ∀ x0 ∈ x.f2, ((Lit.int .i64 x0.f0).wf = true ∧ (Lit.int .i64 x0.f1).wf = true ∧ x0.f2.size ≤ 140737488351232 ∧ x0.f3.size ≤ 140737488351232)) ∧ (x.f3.length * 64 ≤ 140737488351232 ∧ ∀ x0 ∈ x.f3, ((Lit.int .i64 x0.f0).wf = true ∧ (Lit.int .i64 x0.f1).wf = true ∧ ((Lit.int .i64 x0.f2.f0).wf = true ∧ (Lit.int .i64 x0.f2.f1).wf = true ∧ x0.f2.f2.size ≤ 140737488351232 ∧ x0.f2.f3.size ≤ 140737488351232))))) := opn_imp (opn_iso (fun x : S34 => (x.f0, x.f1, x.f2, x.f3)) (fun a => (⟨a.1, a.2.1, a.2.2.1, a.2.2.2⟩ : S34)) (fun _ => rfl) (opn_struct Try.underlying34 (by kernel_rfl) (opf_cons rfl (by kernel_rfl) o3 (opf_cons rfl (by kernel_rfl) o3 (opf_cons rfl (by kernel_rfl) o25 (opf_one rfl (by kernel_rfl) o22)))))) (fun x h => h)
theorem o58 : Opn Try.prog 58 (Kd.pair (Kd.int .i64) (Kd.int .i64)) (fun (x : (Int × Int)) => ((Lit.int .i64 x.1).wf = true ∧ (Lit.int .i64 x.2).wf = true)) := opn_imp (opn_struct Try.underlying58 (by kernel_rfl) (opf_cons rfl (by kernel_rfl) o3 (opf_one rfl (by kernel_rfl) o3))) (fun x h => h)
set_option maxRecDepth 100000 in
theorem lifted (os : Os) (started : os.Started) (H : Type) (enc : TypeId × Value → H) :
    ReturnsInHanded {} Try.checked os 9 .any (Rows.notifyAgainSpec.pre6 enc Try.prog Try.f9 Rows.notifyAgainRow.domain false) (Rows.notifyAgainSpec.post enc Try.prog Try.f9 false true false false) := by
  refine returnsInHanded_of_change_sized (C := Try.checked) own started (by kernel_rfl) Try.func9
    (ChangeSpec.witness6 (enc := enc) (C := Try.checked) false ⟨#[], #[.agg #[.int .i64 0, .int .i64 0, .slice none 0 0], .agg #[.int .i64 0, .int .i64 0, .slice none 0 0, .slice none 0 0], .agg #[.int .i64 0, .int .i64 0]], []⟩ 8 (by kernel_rfl) (by kernel_rfl) (by kernel_rfl) (by kernel_rfl)) ?_
  intro W base args ds gs before hval0 hW hcnd hsz0 _
  have hsz : (DataW.weightsEach Try.prog (Try.f9.params.toList ++ Rows.notifyAgainSpec.plain.varTypes Try.prog) (ds ++ gs)).all (· ≤ reachBytes) = true := hsz0
  have hval : ∀ (j : Nat) t v, Try.f9.params[j]? = some t → args[j]? = some v → Value.okWide Try.prog W .any base t v := hval0
  have hW' := hW
  obtain ⟨p, q, hA0, hV, rfl, hfz, hnd⟩ := hW
  have hA : DataW.TrodAll enc Try.prog W 0 (fun _ => true) true Try.f9.params.toList args.toList ds p := hA0
  rw [Try.params9] at hA hval hsz
  obtain ⟨v0, vs0, d0, ds0, p0, q0, hargs, rfl, rfl, h0, r0⟩ := trodAll_cons hA
  obtain ⟨v1, vs1, d1, ds1, p1, q1, rfl, rfl, rfl, h1, r1⟩ := trodAll_cons r0
  obtain ⟨v2, vs2, d2, ds2, p2, q2, rfl, rfl, rfl, h2, r2⟩ := trodAll_cons r1
  obtain ⟨rfl, rfl, rfl⟩ := trodAll_nil r2
  obtain rfl : args = #[v0, v1, v2] := by cases args; simp_all
  obtain ⟨rfl, rfl⟩ := trodVars_none hV
  have lt0 := arg_lt h0
  obtain ⟨x0, K0, F0⟩ := opn_arg o24 h0 hsz 0 rfl rfl
  obtain ⟨cs0, rfl, _⟩ := okWide_struct Try.underlying24 (hval 0 24 v0 rfl rfl)
  obtain ⟨A0_0, c0_0, K0, L0_0, R0_0⟩ := k24_open K0
  replace K0 : cs0.toList = [.int .i64 x0.f0, .int .i64 x0.f1, .slice A0_0 x0.f2.length c0_0] := K0
  obtain rfl : cs0 = #[.int .i64 x0.f0, .int .i64 x0.f1, .slice A0_0 x0.f2.length c0_0] := Array.toList_inj.1 K0
  have lt1 := arg_lt h1
  obtain ⟨x1, K1, F1⟩ := opn_arg o34 h1 hsz 1 rfl rfl
  obtain ⟨cs1, rfl, _⟩ := okWide_struct Try.underlying34 (hval 1 34 v1 rfl rfl)
  obtain ⟨A1_0, c1_0, A1_1, c1_1, K1, L1_0, R1_0, L1_1, R1_1⟩ := k34_open K1
  replace K1 : cs1.toList = [.int .i64 x1.f0, .int .i64 x1.f1, .slice A1_0 x1.f2.length c1_0, .slice A1_1 x1.f3.length c1_1] := K1
  obtain rfl : cs1 = #[.int .i64 x1.f0, .int .i64 x1.f1, .slice A1_0 x1.f2.length c1_0, .slice A1_1 x1.f3.length c1_1] := Array.toList_inj.1 K1
  have lt2 := arg_lt h2
  obtain ⟨x2, K2, F2⟩ := opn_arg o58 h2 hsz 2 rfl rfl
  obtain ⟨cs2, rfl, _⟩ := okWide_struct Try.underlying58 (hval 2 58 v2 rfl rfl)
  replace K2 : ((Kd.pair (Kd.int .i64) (Kd.int .i64))).K W x2 cs2.toList := K2
  have K2' : cs2.toList = [.int .i64 x2.1, .int .i64 x2.2] := by
    revert K2; generalize cs2.toList = l; intro K2
    replace K2 : ((Kd.pair (Kd.int .i64) (Kd.int .i64))).K W x2 l := K2
    obtain ⟨_, _, rfl, rfl, rfl⟩ := K2
    rfl
  have K2 := K2'
  clear K2'
  replace K2 : cs2.toList = [.int .i64 x2.1, .int .i64 x2.2] := K2
  obtain rfl : cs2 = #[.int .i64 x2.1, .int .i64 x2.2] := Array.toList_inj.1 K2
  clear hA0 hval0 hsz0 hsz hval
  obtain ⟨k, hp⟩ := Pure.NotifyAgain x0 x1 x2 F0 F1 F2
  refine (codesearchlaw49_NotifyAgain.calls k x0.f0 x0.f1 A0_0 c0_0 x0.f2 x1.f0 x1.f1 A1_0 c1_0 x1.f2 A1_1 c1_1 x1.f3 x2.1 x2.2 true W R0_0 L0_0 R1_0 L1_0 R1_1 L1_1 hp).mono ?_
  rintro e W' ⟨he, bel⟩
  subst he
  exact ⟨_, rfl, _, _, _, [], _, [], hW', trodAll_mk1 (shut_bool Try.underlying4 _), (trodAll_cons_mk (Below.trod laidOut (by kernel_rfl) (of_decide_eq_true (by kernel_rfl)) h0 bel lt0) (trodAll_cons_mk (Below.trod laidOut (by kernel_rfl) (of_decide_eq_true (by kernel_rfl)) h1 bel lt1) (trodAll_cons_mk (Below.trod laidOut (by kernel_rfl) (of_decide_eq_true (by kernel_rfl)) h2 bel lt2) trodAll_mk0))), rfl, bel.frame _, fun h => by cases h⟩
theorem over : Rows.notifyAgainRow.holds Try.pinned (OpenSpec.ofChange Rows.notifyAgainSpec) :=
  OpenClaim.holds_of_wide 9 Try.f9 rfl rfl rfl rfl rfl rfl rfl ⟨rfl, rfl, rfl, rfl, rfl⟩ rfl rfl rfl rfl rfl (by kernel_rfl) Try.func9 (by kernel_rfl)
    (of_decide_eq_true (by kernel_rfl)) (by unfold Func.isWrapper; first | (rw [if_pos (by decide +kernel)]; kernel_rfl) | (rw [if_neg (by decide +kernel)]; exact ⟨rfl, rfl⟩))
    (fun os started H enc _ => lifted os started H enc)
theorem proved : Rows.NotifyAgainSaid := over
#print axioms proved
end Go.Proofs.Ytcoidmhdkhpalaa.notifyAgain
namespace Go.Proofs.Ytcoidmhdkhpalaa
/-- The row, under a short name, for the claim. -/
theorem notifyAgain_holds : Rows.NotifyAgainSaid := notifyAgain.proved
end Go.Proofs.Ytcoidmhdkhpalaa
