/-
  AE, part 9: more operations.
-/
import Derived.Test.YtbpccdengeakgaaAE8
set_option linter.unusedVariables false
set_option linter.unusedSimpArgs false
namespace Go.Proofs.Ytbpccdengeakgaa.AE
open Go Go.RowKit
section
variable {P : Program} {B : Nat} {w0 w w' : World} {I I' : Nat → Prop} {μ μ' : Mu} {h h' : Hp} {e : Env} {ρ : Operand → Value} {d d' : D} {v : Value} {k : Nat}
theorem szT_run {t : TypeId} {n : Nat} (hn : szT P t = some n) : (sizeOf t).run P w = .ok n w := by
  unfold szT at hn
  obtain ⟨i, hi, hs⟩ := Option.map_eq_some_iff.1 hn
  simp [sizeOf, typeInfo, hi, hs]
theorem mv_ok (hi : Inv B w0 I μ h w) (ho : OpsOk w I μ e ρ) {o : Oper} {x : Operand} (hop : o.op = .move x ∨ o.op = .assign x) {y : X} (hx : cX x = some y) : Res P B w0 I μ w k (execOp ρ o) (y.ev e) h := by
  refine .pure hi (v := ρ x) ?_ (ho x y hx)
  rcases hop with hop | hop <;> simp [execOp, hop]
theorem pick_ok (hi : Inv B w0 I μ h w) (ho : OpsOk w I μ e ρ) {o : Oper} {c a b : Operand} (hop : o.op = .pick c a b) {yc ya yb : X} (hc : cX c = some yc) (ha : cX a = some ya) (hb : cX b = some yb) {t : Bool} (ht : asB (yc.ev e) = some t) :
    Res P B w0 I μ w k (execOp ρ o) (if t then ya.ev e else yb.ev e) h := by
  obtain ⟨h1, _⟩ := (ho c yc hc).asB ht
  refine .pure hi (v := if t then ρ a else ρ b) ?_ ?_
  · cases t <;> simp [execOp, hop, h1, asBool]
  · cases t
    · exact ho b yb hb
    · exact ho a ya ha
theorem ext_ok (hi : Inv B w0 I μ h w) (ho : OpsOk w I μ e ρ) {o : Oper} {x : Operand} {j : Nat} (hop : o.op = .extract x j) {y : X} (hx : cX x = some y) {cs : List D} (hy : y.ev e = .tup cs) (hd : cs[j]? = some d) : Res P B w0 I μ w k (execOp ρ o) d h := by
  have r1 := ho x y hx
  rw [hy] at r1
  obtain ⟨vs, hv, h1⟩ := r1.tup_inv
  obtain ⟨u, hu, h2⟩ := h1.get hd
  refine .pure hi (v := u) ?_ h2
  simp [execOp, hop, hv, Instr.extract, hu]
theorem run_part {t : TypeId} {n : Nat} {ag : Bool} (hn : szT P t = some n) (ha : agT P t = some ag) {us : List Value} {off : Nat} :
    (ag = true → (part t us.toArray off).run P w = .ok (.agg ((us.drop off).take n).toArray) w) ∧ (ag = false → ∀ u, (us.drop off).take n = [u] → (part t us.toArray off).run P w = .ok u w) := by
  unfold agT at ha
  obtain ⟨ds, hd, ha⟩ := Option.map_eq_some_iff.1 ha
  have hagg : (isAgg t).run P w = .ok ag w := by
    unfold isAgg
    rw [Sem.run_bind, run_underlying hd w]
    subst ha
    cases ds <;> simp [TypeDesc.isRow]
  refine ⟨fun h1 => ?_, fun h1 u hu => ?_⟩
  · subst h1
    simp [part, Sem.run_bind, hagg, szT_run hn, List.extract_toArray]
  · subst h1
    have : us[off]? = some u := by
      have h2 : ((us.drop off).take n)[0]? = some u := by rw [hu]; rfl
      rw [List.getElem?_take] at h2
      split at h2
      · rw [List.getElem?_drop] at h2; simpa using h2
      · cases h2
    simp [part, Sem.run_bind, hagg, this]
theorem fld_ok (hi : Inv B w0 I μ h w) (ho : OpsOk w I μ e ρ) {o : Oper} {t : TypeId} {x : Operand} {f : Nat} (hop : o.op = .field t x f) {fs : Array Field} (hu : P.underlying t = some (.struct fs)) {fd : Field} (hf : fs[f]? = some fd) {n : Nat} {ag : Bool}
    (hn : szT P fd.type = some n) (ha : agT P fd.type = some ag) {y : X} (hx : cX x = some y) {cs ds : List D} (hy : y.ev e = .agg cs) (hs : sub cs fd.offset n = some ds) (hm : mkD ag ds = some d) : Res P B w0 I μ w k (execOp ρ o) d h := by
  have r1 := ho x y hx
  rw [hy] at r1
  obtain ⟨vs, hv, h1⟩ := r1.agg_inv
  obtain ⟨s1, s2, s3⟩ := sub_some hs
  have h2 : RpL w I μ ds ((vs.drop fd.offset).take n) := by rw [s2]; exact (h1.drop _).take _
  obtain ⟨p1, p2⟩ := run_part (P := P) (w := w) (us := vs) (off := fd.offset) hn ha
  rcases mkD_rp hm h2 with ⟨ha, _, hr⟩ | ⟨ha, _, u, hu2, hr⟩
  · refine .pure hi ?_ hr
    simp [execOp, hop, hv, Instr.field, run_underlying hu, hf, asAgg, p1 ha]
  · refine .pure hi ?_ hr
    simp [execOp, hop, hv, Instr.field, run_underlying hu, hf, asAgg, p2 ha u hu2]
/-- A pointer some cells on. -/
theorem Rp.fwd (hv : Rp w I μ d v) (off : Nat) : (∀ cs o, d = .ipt cs o → ∃ ad, v = .pointer (some ad) ∧ Rp w I μ (.ipt cs (o + off)) (.pointer (some (ad.add off)))) ∧ (∀ l i o, d = .ptr l i o → ∃ ad, v = .pointer (some ad) ∧ Rp w I μ (.ptr l i (o + off)) (.pointer (some (ad.add off)))) := by
  refine ⟨fun cs o hd => ?_, fun l i o hd => ?_⟩
  · subst hd
    cases hv with
    | im hm =>
      cases hm with
      | ipt f hI hlf hcell hr =>
        rename_i ad
        have aa : ∀ j, (ad.add off).add j = ad.add (off + j) := fun j => by
          unfold Addr.add
          by_cases h1 : off = 0
          · subst h1; simp
          · by_cases h2 : j = 0
            · subst h2; simp [h1]
            · simp [h1, h2, Nat.add_assoc]
        exact ⟨ad, rfl, .im (.ipt (fun j => f (off + j)) (by rw [add_block]; exact hI) hlf (fun j d hd => by rw [aa]; exact hcell _ d (by rw [← Nat.add_assoc]; exact hd)) (fun j d hd => hr _ d (by rw [← Nat.add_assoc]; exact hd)))⟩
  · subst hd
    obtain ⟨p, b, h1, h2, rfl⟩ := hv.ptr_inv
    refine ⟨_, rfl, ?_⟩
    rw [Addr.add_mid, Nat.add_assoc]
    exact .ptr h1 h2
theorem fad_ok (hi : Inv B w0 I μ h w) (ho : OpsOk w I μ e ρ) {o : Oper} {t : TypeId} {x : Operand} {f : Nat} (hop : o.op = .fieldAddr t x f) {fs : Array Field} (hu : P.underlying t = some (.struct fs)) {fd : Field} (hf : fs[f]? = some fd) {n : Nat} (hn : szT P fd.type = some n) (hn0 : n ≠ 0) {y : X} (hx : cX x = some y)
    (hd : (∃ cs o, y.ev e = .ipt cs o ∧ d = .ipt cs (o + fd.offset)) ∨ (∃ l i o, y.ev e = .ptr l i o ∧ d = .ptr l i (o + fd.offset))) : Res P B w0 I μ w k (execOp ρ o) d h := by
  have r1 := ho x y hx
  obtain ⟨f1, f2⟩ := r1.fwd fd.offset
  have : ∃ ad, ρ x = .pointer (some ad) ∧ Rp w I μ d (.pointer (some (ad.add fd.offset))) := by
    rcases hd with ⟨cs, o, h1, rfl⟩ | ⟨l, i, o, h1, rfl⟩
    · exact f1 cs o h1
    · exact f2 l i o h1
  obtain ⟨ad, hv, hr⟩ := this
  refine .pure hi ?_ hr
  simp [execOp, hop, hv, Instr.fieldAt, run_underlying hu, hf, Instr.sureAddr, fieldPlace, szT_run hn, hn0]
theorem iaA_ok (hi : Inv B w0 I μ h w) (ho : OpsOk w I μ e ρ) {o : Oper} {t et : TypeId} {x x2 : Operand} (hop : o.op = .indexAddr t x x2) {n : Nat} (hu : P.underlying t = some (.array n et)) {sz : Nat} (hn : szT P et = some sz) {y y2 : X} (hx : cX x = some y) (hx2 : cX x2 = some y2) {j : Int}
    (hj : asI (y2.ev e) = some j) (h0 : 0 ≤ j) (h1 : j < n) (hd : (∃ cs o, y.ev e = .ipt cs o ∧ d = .ipt cs (o + j.toNat * sz)) ∨ (∃ l i o, y.ev e = .ptr l i o ∧ d = .ptr l i (o + j.toNat * sz))) : Res P B w0 I μ w k (execOp ρ o) d h := by
  have r1 := ho x y hx
  obtain ⟨kd, hv2, _⟩ := (ho x2 y2 hx2).asI hj
  obtain ⟨f1, f2⟩ := r1.fwd (j.toNat * sz)
  have : ∃ ad, ρ x = .pointer (some ad) ∧ Rp w I μ d (.pointer (some (ad.add (j.toNat * sz)))) := by
    rcases hd with ⟨cs, o, h1, rfl⟩ | ⟨l, i, o, h1, rfl⟩
    · exact f1 cs o h1
    · exact f2 l i o h1
  obtain ⟨ad, hv, hr⟩ := this
  refine .pure hi ?_ hr
  simp [execOp, hop, hv, hv2, Instr.indexAt, asIntOf, run_underlying hu, Instr.sureAddr, szT_run hn, h0, h1]
theorem iaS_ok (hi : Inv B w0 I μ h w) (ho : OpsOk w I μ e ρ) {o : Oper} {t et : TypeId} {x x2 : Operand} (hop : o.op = .indexAddr t x x2) (hu : P.underlying t = some (.slice et)) {sz : Nat} (hn : szT P et = some sz) {y y2 : X} (hx : cX x = some y) (hx2 : cX x2 = some y2) {j : Int}
    (hj : asI (y2.ev e) = some j) (h0 : 0 ≤ j) (hd : (∃ xs z, y.ev e = .isl xs ∧ xs[j.toNat]? = some z ∧ z.length = sz ∧ d = .ipt z 0) ∨ (∃ l ety xs own, y.ev e = .osl l ∧ h l = .row ety sz xs own ∧ j.toNat < xs.length ∧ d = .ptr l j.toNat 0)) : Res P B w0 I μ w k (execOp ρ o) d h := by
  have r1 := ho x y hx
  obtain ⟨kd, hv2, _⟩ := (ho x2 y2 hx2).asI hj
  have : ∃ ad n c, ρ x = .slice (some ad) n c ∧ j.toNat < n ∧ Rp w I μ d (.pointer (some (ad.add (j.toNat * sz)))) := by
    rcases hd with ⟨xs, z, h1, hz, hzl, rfl⟩ | ⟨l, ety, xs, own, h1, hl, hjl, rfl⟩
    · rw [h1] at r1
      generalize ρ x = v at r1 ⊢
      cases r1 with
      | im hm =>
        cases hm with
        | isl f hc hlen hlf hcell hr =>
          have hne : xs ≠ [] := by intro he; subst he; simp at hz
          obtain ⟨ad, rfl, hI, hcl⟩ := hcell hne
          have hsz := hlen z (List.mem_of_getElem? hz)
          rw [hzl] at hsz
          subst hsz
          refine ⟨ad, _, _, rfl, (List.getElem?_eq_some_iff.1 hz).1, .im (.ipt (fun i => f j.toNat i) (by rw [add_block]; exact hI) (hlf z (List.mem_of_getElem? hz)) (fun i d hd => ?_) (fun i d hd => hr j.toNat i z d hz (by simpa using hd)))⟩
          have := hcl j.toNat i z d hz (by simpa using hd)
          rw [← this]
          congr 1
          unfold Addr.add
          by_cases h1 : j.toNat * sz = 0
          · by_cases h2 : i = 0
            · subst h2; simp [h1]
            · simp [h1, h2]
          · by_cases h2 : i = 0
            · subst h2; simp [h1]
            · simp [h1, h2, Nat.add_assoc]
    · rw [h1] at r1
      have hoo := hi.ob l
      rw [hl] at hoo
      obtain ⟨p, cells, k1, k2, k3, k4, k5, k6, k7, k8, k9, k10⟩ := hoo
      generalize ρ x = v at r1 ⊢
      cases r1 with
      | im hm => cases hm
      | osl hp hv =>
        rw [k1] at hp
        obtain rfl := Option.some.inj hp
        rcases k5.2 with ⟨hn, hn0⟩ | ⟨g, cap, cur, hvv, _⟩
        · omega
        · rw [hv] at hvv
          injection hvv with e1 e2 e3
          subst e1; subst e2; subst e3
          refine ⟨_, _, _, rfl, hjl, ?_⟩
          rw [Addr.add_mid, Nat.zero_add, ← k2]
          exact Rp.ptr (o := 0) k1 (by rw [k4, hv]; rfl)
  obtain ⟨ad, n, c, hv, hjn, hr⟩ := this
  refine .pure hi ?_ hr
  have hj2 : j < (n : Int) := by omega
  simp [execOp, hop, hv, hv2, Instr.indexAt, asIntOf, run_underlying hu, szT_run hn, h0, hj2]
theorem ixS_ok (hi : Inv B w0 I μ h w) (ho : OpsOk w I μ e ρ) {o : Oper} {t : TypeId} {x x2 : Operand} (hop : o.op = .index t x x2) (hu : P.underlying t = some .string) {y y2 : X} (hx : cX x = some y) (hx2 : cX x2 = some y2) {j : Int} (hj : asI (y2.ev e) = some j)
    {s : ByteArray} (hs : y.ev e = .str s) (h0 : 0 ≤ j ∧ j.toNat < s.size) : Res P B w0 I μ w k (execOp ρ o) (.int .u8 (s[j.toNat]'h0.2).toNat) h := by
  have r1 := ho x y hx
  rw [hs] at r1
  have hv := r1.str_inv
  obtain ⟨kd, hv2, _⟩ := (ho x2 y2 hx2).asI hj
  refine .pure hi ?_ (.int _ _)
  simp [execOp, hop, hv, hv2, Instr.index, asIntOf, run_underlying hu, h0.1, h0.2]
/-- How many elements. -/
theorem elems_len (hi : Inv B w0 I μ h w) (hv : Rp w I μ d v) {xs : List (List D)} (he : elems h d = some xs) : ∃ A c, v = .slice A xs.length c ∧ xs.length ≤ c := by
  cases d <;> simp only [elems] at he <;> try (cases he; done)
  · obtain rfl := Option.some.inj he
    cases hv with | im hm => cases hm; exact ⟨none, 0, rfl, Nat.le_refl _⟩
  · obtain rfl := Option.some.inj he
    cases hv with | im hm => cases hm with | isl f hc => exact ⟨_, _, rfl, hc⟩
  · rename_i l
    have hoo := hi.ob l
    cases hl : h l with
    | row ety sz ys own =>
      rw [hl] at he hoo
      obtain rfl := Option.some.inj he
      obtain ⟨p, cells, k1, k2, k3, k4, k5, k6, k7, k8, k9, k10⟩ := hoo
      cases hv with
      | im hm => cases hm
      | osl hp hv =>
        rw [k1] at hp
        obtain rfl := Option.some.inj hp
        rcases k5.2 with ⟨hn, hn0⟩ | ⟨g, cap, cur, hvv, _, _, hle, _⟩
        · rw [hv] at hn
          injection hn with e1 e2 e3
          subst e1; subst e2; subst e3
          exact ⟨none, 0, by rw [hn0], by omega⟩
        · rw [hv] at hvv
          injection hvv with e1 e2 e3
          subst e1; subst e2; subst e3
          exact ⟨_, _, rfl, hle⟩
    | _ => rw [hl] at he; cases he
theorem len_ok (hi : Inv B w0 I μ h w) (ho : OpsOk w I μ e ρ) {o : Oper} {c : Go.Call} (hop : o.op = .call c) (hc : c.callee = .builtin .len) {x : Operand} {t : TypeId} (ha : c.args.toList = [x]) (hat : c.argTypes.toList = [t]) {y : X} (hx : cX x = some y)
    (hd : (P.underlying t = some .string ∨ ∃ et, P.underlying t = some (.slice et))) (hev : (∃ s, y.ev e = .str s ∧ d = .int .i64 s.size ∧ P.underlying t = some .string) ∨ (∃ xs, elems h (y.ev e) = some xs ∧ d = .int .i64 xs.length ∧ ∃ et, P.underlying t = some (.slice et))) : Res P B w0 I μ w k (execOp ρ o) d h := by
  have h1 : c.args = #[x] := by rw [← Array.toArray_toList (xs := c.args), ha]
  have h2 : c.argTypes = #[t] := by rw [← Array.toArray_toList (xs := c.argTypes), hat]
  have r1 := ho x y hx
  rcases hev with ⟨s, hs, rfl, hu⟩ | ⟨xs, hxs, rfl, et, hu⟩
  · rw [hs] at r1
    have hv := r1.str_inv
    refine .pure hi ?_ (.int _ _)
    simp [execOp, hop, resolve, hc, h1, h2, invoke, builtin, hv, Builtin.len_, run_underlying hu, goInt]
  · obtain ⟨A, cc, hv, _⟩ := elems_len hi r1 hxs
    refine .pure hi ?_ (.int _ _)
    simp [execOp, hop, resolve, hc, h1, h2, invoke, builtin, hv, Builtin.len_, run_underlying hu, goInt]
theorem cvi_ok (hi : Inv B w0 I μ h w) (ho : OpsOk w I μ e ρ) {o : Oper} {s t : TypeId} {ks kt : IntKind} {x : Operand} (hop : o.op = .convert s t x) (hs : P.underlying s = some (.int ks)) (ht : P.underlying t = some (.int kt)) {y : X} (hx : cX x = some y) {n : Int} (hn : AE.asI (y.ev e) = some n) : Res P B w0 I μ w k (execOp ρ o) (.int kt (kt.wrap n)) h := by
  have r1 := ho x y hx
  generalize y.ev e = a at *
  cases a <;> simp only [AE.asI] at hn <;> try (cases hn; done)
  obtain rfl := Option.some.inj hn
  have hv := r1.int_inv
  refine .pure hi ?_ (.int _ _)
  simp [execOp, hop, hv, convert, run_underlying hs, run_underlying ht, Conv.intToInt]
theorem ibs_ok (hi : Inv B w0 I μ h w) (ho : OpsOk w I μ e ρ) {o : Oper} {c : Go.Call} {f : FuncId} (hop : o.op = .call c) (hc : c.callee = .value (.func f)) (hb : ibsOf P f = true) {x x2 : Operand} (ha : c.args.toList = [x, x2]) {y y2 : X} (hx : cX x = some y) (hx2 : cX x2 = some y2) (hev : ibsD (y.ev e) (y2.ev e) = some d) : Res P B w0 I μ w k (execOp ρ o) d h := by
  have h1 : c.args = #[x, x2] := by rw [← Array.toArray_toList (xs := c.args), ha]
  have r1 := ho x y hx
  have r2 := ho x2 y2 hx2
  obtain ⟨vs, hv, hr⟩ := (ho (.func f) (.c (.fn f [])) rfl).fn_inv
  obtain rfl : vs = [] := hr.inv0
  unfold ibsOf at hb
  split at hb
  · rename_i fn hfn
    simp only [Bool.and_eq_true] at hb
    obtain ⟨⟨b1, b2⟩, b3⟩ := hb
    have hname : fn.name = "internal/bytealg.IndexByteString" := by simpa using b2
    have hfind : Extern.find fn = some Extern.BytealgIndexByte.indexByte := by
      unfold Extern.find
      rw [hname]
      have q1 : Extern.allGenericRows.lookup "internal/bytealg.IndexByteString" = none := by kernel_rfl
      have q2 : Extern.allTypedRows.lookup "internal/bytealg.IndexByteString" = none := by kernel_rfl
      have q3 : Extern.allRows.lookup "internal/bytealg.IndexByteString" = some Extern.BytealgIndexByte.indexByte := by kernel_rfl
      simp only [q1, q2, q3]
      rfl
    have hrun := fun args => run_callFunc_extern (P := P) (f := f) hfn (by rw [hname]; rfl) b1 (by simpa using b3) hfind args w
    generalize y.ev e = a at *
    generalize y2.ev e = b at *
    cases a <;> cases b <;> simp only [ibsD] at hev <;> try (cases hev; done)
    rename_i s kd n
    cases kd <;> simp only [ibsD] at hev <;> try (cases hev; done)
    obtain rfl := Option.some.inj hev
    have hv1 := r1.str_inv
    have hv2 := r2.int_inv
    refine .pure hi ?_ (.int _ _)
    simp [execOp, hop, resolve, hc, Deferred.ofValue, hv, invoke, h1, hv1, hv2, hrun, run_indexByte_string]
  · cases hb
theorem mm_ok (hi : Inv B w0 I μ h w) (ho : OpsOk w I μ e ρ) {o : Oper} {c : Go.Call} {up : Bool} (hop : o.op = .call c) (hc : c.callee = .builtin (if up then .max else .min)) {x x2 : Operand} (ha : c.args.toList = [x, x2]) {y y2 : X} (hx : cX x = some y) (hx2 : cX x2 = some y2) (hev : mmD up (y.ev e) (y2.ev e) = some d) : Res P B w0 I μ w k (execOp ρ o) d h := by
  have h1 : c.args = #[x, x2] := by rw [← Array.toArray_toList (xs := c.args), ha]
  have r1 := ho x y hx
  have r2 := ho x2 y2 hx2
  generalize y.ev e = a at *
  generalize y2.ev e = b at *
  cases a <;> cases b <;> simp only [mmD] at hev <;> try (cases hev; done)
  split at hev
  · rename_i hk
    obtain rfl := Option.some.inj hev
    subst hk
    have hv := r1.int_inv
    have hv2 := r2.int_inv
    refine .pure hi ?_ (.int _ _)
    cases up <;> simp [execOp, hop, resolve, hc, h1, invoke, builtin, hv, hv2, Builtin.max_, Builtin.min_, Builtin.max2, Builtin.min2]
  · cases hev
theorem mkfn_ok (hi : Inv B w0 I μ h w) (ho : OpsOk w I μ e ρ) {o : Oper} {f : Nat} {first caps : Array Operand} (hop : o.op = .makeFunc (.func f) first caps) (hf : first.isEmpty = true) {ys : List X} (hx : cXs caps.toList = some ys) : Res P B w0 I μ w k (execOp ρ o) (.fn f (ys.map (X.ev e))) h := by
  have r1 := ho.list hx
  have h1 : first = #[] := by simpa using hf
  have hm : (caps.toList.map ρ).toArray = caps.map ρ := by rw [← Array.toList_map, Array.toArray_toList]
  refine .pure hi (v := .func (.func f) #[] (caps.toList.map ρ).toArray) ?_ (.fn _ r1.1 r1.2)
  rw [hm]
  simp [execOp, hop, h1, Instr.makeFunc]
theorem Rp.asN (hv : Rp w I μ d v) {n : Nat} (hb : AE.asN d = some n) : v = .int .i64 n := by
  cases d <;> simp only [AE.asN] at hb <;> try (cases hb; done)
  rename_i kd m
  cases kd <;> simp only at hb <;> try (cases hb; done)
  split at hb
  · rename_i h0
    obtain rfl := Option.some.inj hb
    rw [hv.int_inv]
    congr 1
    omega
  · cases hb
theorem slS_ok (hi : Inv B w0 I μ h w) (ho : OpsOk w I μ e ρ) {o : Oper} {t : TypeId} {x : Operand} {lo hi2 : Option Operand} (hop : o.op = .slice t x lo hi2 none) (hu : P.underlying t = some .string) {y : X} (hx : cX x = some y) {ylo yhi : Option X} (hlo : cO lo = some ylo) (hhi : cO hi2 = some yhi)
    {s : ByteArray} (hs : y.ev e = .str s) {a b : Nat} (ha : bnd e 0 ylo = some a) (hb : bnd e s.size yhi = some b) (hab : a ≤ b) (hbs : b ≤ s.size) : Res P B w0 I μ w k (execOp ρ o) (.str (s.extract a b)) h := by
  have r1 := ho x y hx
  rw [hs] at r1
  have hv := r1.str_inv
  have qlo : (lo = none ∧ a = 0) ∨ ∃ xl, lo = some xl ∧ ρ xl = .int .i64 a := by
    cases lo with
    | none => simp only [cO, Option.some.injEq] at hlo; subst hlo; exact .inl ⟨rfl, by simpa [bnd] using ha.symm⟩
    | some xl =>
      simp only [cO, Option.bind_eq_some_iff] at hlo
      obtain ⟨yl, hyl, hq⟩ := hlo
      obtain rfl := Option.some.inj hq
      exact .inr ⟨xl, rfl, (ho xl yl hyl).asN ha⟩
  have qhi : (hi2 = none ∧ b = s.size) ∨ ∃ xl, hi2 = some xl ∧ ρ xl = .int .i64 b := by
    cases hi2 with
    | none => simp only [cO, Option.some.injEq] at hhi; subst hhi; exact .inl ⟨rfl, by simpa [bnd] using hb.symm⟩
    | some xl =>
      simp only [cO, Option.bind_eq_some_iff] at hhi
      obtain ⟨yl, hyl, hq⟩ := hhi
      obtain rfl := Option.some.inj hq
      exact .inr ⟨xl, rfl, (ho xl yl hyl).asN hb⟩
  refine .pure hi ?_ (.str _)
  have i1 : (a : Int) ≤ (b : Int) := by omega
  have i2 : (b : Int) ≤ (s.size : Int) := by omega
  rcases qlo with ⟨rfl, rfl⟩ | ⟨xl, rfl, hxl⟩ <;> rcases qhi with ⟨rfl, rfl⟩ | ⟨xh, rfl, hxh⟩ <;> simp [execOp, hop, hv, Instr.sliceAt, Instr.slice, Instr.sliceBounds, Instr.sliceBound, asIntOf, run_underlying hu, *]
theorem nilc_ok (hi : Inv B w0 I μ h w) (ho : OpsOk w I μ e ρ) {o : Oper} {x : Operand} (hop : o.op = .nilCheck x) {y : X} (hx : cX x = some y) (hy : (∃ cs o, y.ev e = .ipt cs o) ∨ (∃ l i o, y.ev e = .ptr l i o)) : Res P B w0 I μ w k (execOp ρ o) (y.ev e) h := by
  have r1 := ho x y hx
  have : ∃ ad, ρ x = .pointer (some ad) := by
    rcases hy with ⟨cs, oo, h1⟩ | ⟨l, i, oo, h1⟩
    · rw [h1] at r1
      generalize ρ x = v at r1 ⊢
      cases r1 with | im hm => cases hm; exact ⟨_, rfl⟩
    · rw [h1] at r1
      obtain ⟨p, b, _, _, hv⟩ := r1.ptr_inv
      exact ⟨_, hv⟩
  obtain ⟨ad, hv⟩ := this
  refine .pure hi ?_ r1
  simp [execOp, hop, hv]
end
end Go.Proofs.Ytbpccdengeakgaa.AE
