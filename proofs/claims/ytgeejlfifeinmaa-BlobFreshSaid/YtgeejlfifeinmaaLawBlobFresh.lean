-- Printed by this session's rowgen.py: the row of the law codesearchlaw24_BlobFresh. Not trusted: Lean checks it.
import Derived.Test.YtgeejlfifeinmaaRows
import Derived.Test.YtgeejlfifeinmaaPAllx11
import Derived.Test.YtgeejlfifeinmaaPureBlobFresh
import Derived.Test.YtgeejlfifeinmaaRowOpen
import Derived.Test.YtgeejlfifeinmaaPAllx0
import Derived.WalkKit
import Derived.ProofKit
import Derived.OpenShut
import Derived.ShutString
import Derived.ChangeOld
import Derived.Below
import Derived.Carry
import Derived.SizedLaws
namespace Go.Proofs.Ytgeejlfifeinmaa.blobFresh
open Go.ChangeShapes Go.WideShapes Go.ChangeAt Go.RowKit
open Go.ChangeMaps (open_string shut_string)
open Go.Proofs.YtgeejlfifeinmaaW.PrintWords Go.Proofs.Ytgeejlfifeinmaa.Opn Go.Proofs.Ytgeejlfifeinmaa.PAll
set_option linter.unusedVariables false
theorem own : ownKnob Try.prog.godebug = none := by kernel_rfl
theorem laidOut : laidOutB Try.prog = true := by kernel_rfl
theorem o3 : Opn Try.prog 3 (Kd.int .i64) (fun (x : Int) => (Lit.int .i64 x).wf = true) := opn_int Try.underlying3
theorem o9 : Opn Try.prog 9 Kd.string (fun (x : ByteArray) => x.size ≤ 140737488351232) := opn_string Try.underlying9
theorem o39 : Opn Try.prog 39 k39 (fun (x : S39) => ((Lit.int .i64 x.f0).wf = true ∧ x.f1.size ≤ 140737488351232)) := opn_imp (opn_iso (fun x : S39 => (x.f0, x.f1)) (fun a => (⟨a.1, a.2⟩ : S39)) (fun _ => rfl) (opn_struct Try.underlying39 (by kernel_rfl) (opf_cons rfl (by kernel_rfl) o3 (opf_one rfl (by kernel_rfl) o9)))) (fun x h => h)
theorem o22 : Opn Try.prog 22 (Kd.slice 39 k39) (fun (x : (List S39)) => (x.length * 24 ≤ 140737488351232 ∧ ∀ x0 ∈ x, ((Lit.int .i64 x0.f0).wf = true ∧ x0.f1.size ≤ 140737488351232))) := opn_imp (opn_slice Try.underlying22 (by kernel_rfl) o39) (fun xs h => ⟨(show xs.length * 24 ≤ 140737488351232 from h.1), h.2⟩)
theorem o24 : Opn Try.prog 24 k24 (fun (x : S24) => ((Lit.int .i64 x.f0).wf = true ∧ (x.f1.length * 24 ≤ 140737488351232 ∧ ∀ x0 ∈ x.f1, ((Lit.int .i64 x0.f0).wf = true ∧ x0.f1.size ≤ 140737488351232)))) := opn_imp (opn_iso (fun x : S24 => (x.f0, x.f1)) (fun a => (⟨a.1, a.2⟩ : S24)) (fun _ => rfl) (opn_struct Try.underlying24 (by kernel_rfl) (opf_cons rfl (by kernel_rfl) o3 (opf_one rfl (by kernel_rfl) o22)))) (fun x h => h)
theorem o33 : Opn Try.prog 33 (Kd.slice 3 (Kd.int .i64)) (fun (x : (List Int)) => (x.length * 8 ≤ 140737488351232 ∧ ∀ x0 ∈ x, (Lit.int .i64 x0).wf = true)) := opn_imp (opn_slice Try.underlying33 (by kernel_rfl) o3) (fun xs h => ⟨(show xs.length * 8 ≤ 140737488351232 from h.1), h.2⟩)
set_option maxRecDepth 100000 in
theorem lifted (os : Os) (started : os.Started) (H : Type) (enc : TypeId × Value → H) :
    ReturnsInHanded {} Try.checked os 4 .any (Rows.blobFreshSpec.pre6 enc Try.prog Try.f4 Rows.blobFreshRow.domain false) (Rows.blobFreshSpec.post enc Try.prog Try.f4 false true false false) := by
  refine returnsInHanded_of_change_sized (C := Try.checked) own started (by kernel_rfl) Try.func4
    (ChangeSpec.witness6 (enc := enc) (C := Try.checked) false ⟨#[], #[.agg #[.int .i64 0, .slice none 0 0], .slice none 0 0, .string ByteArray.empty], []⟩ 8 (by kernel_rfl) (by kernel_rfl) (by kernel_rfl) (by kernel_rfl)) ?_
  intro W base args ds gs before hval0 hW hcnd hsz0 _
  have hsz : (DataW.weightsEach Try.prog (Try.f4.params.toList ++ Rows.blobFreshSpec.plain.varTypes Try.prog) (ds ++ gs)).all (· ≤ reachBytes) = true := hsz0
  have hval : ∀ (j : Nat) t v, Try.f4.params[j]? = some t → args[j]? = some v → Value.okWide Try.prog W .any base t v := hval0
  have hW' := hW
  obtain ⟨p, q, hA0, hV, rfl, hfz, hnd⟩ := hW
  have hA : DataW.TrodAll enc Try.prog W 0 (fun _ => true) true Try.f4.params.toList args.toList ds p := hA0
  rw [Try.params4] at hA hval hsz
  obtain ⟨v0, vs0, d0, ds0, p0, q0, hargs, rfl, rfl, h0, r0⟩ := trodAll_cons hA
  obtain ⟨v1, vs1, d1, ds1, p1, q1, rfl, rfl, rfl, h1, r1⟩ := trodAll_cons r0
  obtain ⟨v2, vs2, d2, ds2, p2, q2, rfl, rfl, rfl, h2, r2⟩ := trodAll_cons r1
  obtain ⟨rfl, rfl, rfl⟩ := trodAll_nil r2
  obtain rfl : args = #[v0, v1, v2] := by cases args; simp_all
  obtain ⟨rfl, rfl⟩ := trodVars_none hV
  have lt0 := arg_lt h0
  obtain ⟨x0, K0, F0⟩ := opn_arg o24 h0 hsz 0 rfl rfl
  obtain ⟨cs0, rfl, _⟩ := okWide_struct Try.underlying24 (hval 0 24 v0 rfl rfl)
  obtain ⟨A0_0, c0_0, K0, L0_0, R0_0⟩ := k24_open K0
  replace K0 : cs0.toList = [.int .i64 x0.f0, .slice A0_0 x0.f1.length c0_0] := K0
  obtain rfl : cs0 = #[.int .i64 x0.f0, .slice A0_0 x0.f1.length c0_0] := Array.toList_inj.1 K0
  have lt1 := arg_lt h1
  obtain ⟨x1, K1, F1⟩ := opn_arg o33 h1 hsz 1 rfl rfl
  obtain ⟨sa1, sl1, sc1, rfl⟩ := okWide_slice Try.underlying33 (hval 1 33 v1 rfl rfl)
  obtain ⟨sA1, sC1, he1, hl1, hr1⟩ := K1
  obtain ⟨rfl, rfl, rfl⟩ : sa1 = sA1 ∧ sl1 = x1.length ∧ sc1 = sC1 := by injection he1 with he1; injection he1; exact ⟨by assumption, by assumption, by assumption⟩
  have lt2 := arg_lt h2
  obtain ⟨x2, K2, F2⟩ := opn_arg o9 h2 hsz 2 rfl rfl
  obtain ⟨y2, rfl⟩ := okWide_string Try.underlying9 (hval 2 9 v2 rfl rfl)
  replace K2 : [Value.string y2] = [Value.string x2] := K2
  obtain rfl : y2 = x2 := by injection K2 with K2; injection K2
  clear hA0 hval0 hsz0 hsz hval
  obtain ⟨k, hp⟩ := Pure.BlobFresh x0 x1 y2 F0 F1 F2
  refine (codesearchlaw24_BlobFresh.calls k x0.f0 A0_0 c0_0 x0.f1 sa1 sc1 x1 y2 true W R0_0 L0_0 hr1 hl1 hp).mono ?_
  rintro e W' ⟨he, bel⟩
  subst he
  exact ⟨_, rfl, _, _, _, [], _, [], hW', trodAll_mk1 (shut_bool Try.underlying4 _), (trodAll_cons_mk (Below.trod laidOut (by kernel_rfl) (of_decide_eq_true (by kernel_rfl)) h0 bel lt0) (trodAll_cons_mk (Below.trod laidOut (by kernel_rfl) (of_decide_eq_true (by kernel_rfl)) h1 bel lt1) (trodAll_cons_mk (Below.trod laidOut (by kernel_rfl) (of_decide_eq_true (by kernel_rfl)) h2 bel lt2) trodAll_mk0))), rfl, bel.frame _, fun h => by cases h⟩
theorem over : Rows.blobFreshRow.holds Try.pinned (OpenSpec.ofChange Rows.blobFreshSpec) :=
  OpenClaim.holds_of_wide 4 Try.f4 rfl rfl rfl rfl rfl rfl rfl ⟨rfl, rfl, rfl, rfl, rfl⟩ rfl rfl rfl rfl rfl (by kernel_rfl) Try.func4 (by kernel_rfl)
    (of_decide_eq_true (by kernel_rfl)) (by unfold Func.isWrapper; first | (rw [if_pos (by decide +kernel)]; kernel_rfl) | (rw [if_neg (by decide +kernel)]; exact ⟨rfl, rfl⟩))
    (fun os started H enc _ => lifted os started H enc)
theorem proved : Rows.BlobFreshSaid := over
#print axioms proved
end Go.Proofs.Ytgeejlfifeinmaa.blobFresh
namespace Go.Proofs.Ytgeejlfifeinmaa
/-- The row, under a short name, for the claim. -/
theorem blobFresh_holds : Rows.BlobFreshSaid := blobFresh.proved
end Go.Proofs.Ytgeejlfifeinmaa
