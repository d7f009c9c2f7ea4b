/-
  AE, part 10: operations that make memory.
-/
import Derived.Test.YtbpccdengeakgaaAE9
import Derived.Laws.MakeOwn
set_option linter.unusedVariables false
set_option linter.unusedSimpArgs false
namespace Go.Proofs.Ytbpccdengeakgaa.AE
open Go Go.RowKit
section
variable {P : Program} {B : Nat} {w0 w w' : World} {I I' : Nat → Prop} {μ μ' : Mu} {h h' : Hp} {e : Env} {ρ : Operand → Value} {d d' : D} {v : Value} {k : Nat}
theorem zCells_inv {t : TypeId} {z : List D} (hz : zCells P t = some z) : ∃ i zv, P.info? t = some i ∧ i.zero = some zv ∧ cCells zv.cells.toList = some z ∧ z.length = i.size ∧ zv.cells.size = i.size := by
  unfold zCells at hz
  simp only [Option.bind_eq_some_iff] at hz
  obtain ⟨i, hi, zv, hzv, l, hl, he⟩ := hz
  split at he
  · rename_i hlen
    obtain rfl := Option.some.inj he
    refine ⟨i, zv, hi, hzv, hl, hlen, ?_⟩
    have := (cCells_im (w := default) (I := fun _ => True) hl).1.1
    have h2 : zv.cells.toList.length = zv.cells.size := by simp
    omega
  · cases he
theorem alloc_ok (hi : Inv B w0 I μ h w) (hk : μ k = none) {o : Oper} {t : TypeId} (hop : o.op = .alloc t) {z : List D} (hz : zCells P t = some z) : Res P B w0 I μ w k (execOp ρ o) (.ptr k 0 0) (hput h k (.var z true)) := by
  obtain ⟨i, zv, h1, h2, h3, h4, h5⟩ := zCells_inv hz
  obtain ⟨m1, m2, m3⟩ := cCells_im (w := w) (I := I) h3
  obtain ⟨n1, n2, n3, n4⟩ := hi.newVar hk t m1.rp m2
  refine ⟨_, _, _, I, _, ?_, .inl rfl, n4, n1, n2, n3, fun _ h => .inl h⟩
  simp [execOp, hop, Instr.alloc, zeroValue, typeInfo, h1, h2, Go.newVar, newRow]
theorem box_ok (hi : Inv B w0 I μ h w) (ho : OpsOk w I μ e ρ) (hk : μ k = none) {o : Oper} {t : TypeId} {x : Operand} (hop : o.op = .box t x) {y : X} (hx : cX x = some y) {cs : List D} (hc : (y.ev e).cells = some cs) : Res P B w0 I μ w k (execOp ρ o) (.ptr k 0 0) (hput h k (.var cs true)) := by
  obtain ⟨h1, h2⟩ := (ho x y hx).cells hc
  obtain ⟨n1, n2, n3, n4⟩ := hi.newVar hk t h1 h2
  refine ⟨_, _, _, I, _, ?_, .inl rfl, n4, n1, n2, n3, fun _ h => .inl h⟩
  simp [execOp, hop, Instr.box, Go.newVar, newRow]

/-! ### filling -/
theorem spl_of_get {α : Type} : ∀ (us : List α) (cs : List α) (off : Nat), off + us.length ≤ cs.length → us.foldl (fun (p : List α × Nat) u => (p.1.set (off + p.2) u, p.2 + 1)) (cs, 0) = (spl cs off us, us.length) := by
  have key : ∀ (us : List α) (cs : List α) (off n : Nat), off + n + us.length ≤ cs.length → us.foldl (fun (p : List α × Nat) u => (p.1.set (off + p.2) u, p.2 + 1)) (cs, n) = (spl cs (off + n) us, n + us.length) := by
    intro us
    induction us with
    | nil => intro cs off n _; simp [spl_nil]
    | cons u r ih =>
      intro cs off n hl
      simp only [List.foldl_cons]
      rw [ih _ off (n + 1) (by simp at hl ⊢; omega), ← spl_cons cs (off + n) u r (by simpa using hl)]
      simp only [List.length_cons, Nat.add_assoc, Nat.add_comm 1]
  intro us cs off hl
  have := key us cs off 0 (by simpa using hl)
  simpa using this
theorem fold_spl (us : Array Value) (cs : Array Value) (off : Nat) (hl : off + us.size ≤ cs.size) : (us.zipIdx.foldl (fun cs (c, j) => cs.setIfInBounds (off + j) c) cs) = (spl cs.toList off us.toList).toArray := by
  have key : ∀ (us : List Value) (cs : Array Value) (n : Nat), off + n + us.length ≤ cs.size → (us.zipIdx n).foldl (fun (cs : Array Value) (p : Value × Nat) => cs.setIfInBounds (off + p.2) p.1) cs = (spl cs.toList (off + n) us).toArray := by
    intro us
    induction us with
    | nil => intro cs n _; simp [spl_nil]
    | cons u r ih =>
      intro cs n hl
      simp only [List.zipIdx_cons, List.foldl_cons]
      rw [ih _ (n + 1) (by simp at hl ⊢; omega), Array.toList_setIfInBounds, ← Nat.add_assoc, spl_cons cs.toList (off + n) u r (by simpa using hl)]
  have h1 := key us.toList cs 0 (by simpa using hl)
  rw [← Array.foldl_toList, Array.toList_zipIdx]
  simpa using h1
theorem fill_ok {place : Nat → Option (Nat × Nat)} (ho : OpsOk w I μ e ρ) : ∀ (ps : List (Nat × Operand)) (qs : List (Nat × Nat × X)), cPs place ps = some qs → ∀ (z cs : List D) (zv : Array Value), RpL w I μ z zv.toList → fillD z (qs.map fun p => (p.1, p.2.1, p.2.2.ev e)) = some cs →
    ∃ us : List Value, Instr.fill place zv (ps.map fun p => (p.1, ρ p.2)) = some us.toArray ∧ RpL w I μ cs us
  | [], qs, hq, z, cs, zv, hz, hf => by
    obtain rfl := Option.some.inj hq
    simp only [List.map_nil, fillD, Option.some.injEq] at hf
    subst hf
    exact ⟨zv.toList, by simp [Instr.fill], hz⟩
  | (i, x) :: r, qs, hq, z, cs, zv, hz, hf => by
    simp only [cPs, Option.bind_eq_some_iff] at hq
    obtain ⟨pl, hpl, y, hy, q, hq2, he⟩ := hq
    obtain rfl := Option.some.inj he
    simp only [List.map_cons, fillD] at hf
    split at hf
    · rename_i ds hds
      split at hf
      · rename_i hc
        obtain ⟨hc1, hc2⟩ := hc
        obtain ⟨m1, m2⟩ := (ho x y hy).cells hds
        have hzl : z.length = zv.size := by simpa using hz.1
        have hsz : (ρ x).cells.size = pl.2 := by have h2 : (ρ x).cells.toList.length = (ρ x).cells.size := by simp
                                                 have := m1.1; omega
        have hfit : pl.1 + (ρ x).cells.size ≤ zv.size := by omega
        obtain ⟨us, hu1, hu2⟩ := fill_ok ho r q hq2 (spl z pl.1 ds) cs (spl zv.toList pl.1 (ρ x).cells.toList).toArray (by simpa using hz.spl m1 pl.1) hf
        refine ⟨us, ?_, hu2⟩
        simp only [List.map_cons, Instr.fill, hpl]
        rw [if_neg (by simp [hsz]; omega), fold_spl _ _ _ hfit]
        exact hu1
      · cases hf
    · cases hf
theorem build_ok (hi : Inv B w0 I μ h w) (ho : OpsOk w I μ e ρ) {o : Oper} {t : TypeId} {ps : Array (Nat × Operand)} (hop : o.op = .build t ps) {fs : Array Field} (hu : P.underlying t = some (.struct fs)) {z : List D} (hz : zCells P t = some z) {pl : List (Nat × Nat)}
    (hpl : fs.toList.mapM (fun f => (P.info? f.type).map fun i => (f.offset, i.size)) = some pl) {qs : List (Nat × Nat × X)} (hq : cPs (fun i => pl[i]?) ps.toList = some qs) {cs : List D} (hf : fillD z (qs.map fun p => (p.1, p.2.1, p.2.2.ev e)) = some cs) : Res P B w0 I μ w k (execOp ρ o) (.agg cs) h := by
  obtain ⟨i, zv, h1, h2, h3, h4, h5⟩ := zCells_inv hz
  obtain ⟨m1, m2, m3⟩ := cCells_im (w := w) (I := I) h3
  obtain ⟨us, hu1, hu2⟩ := fill_ok ho ps.toList qs hq z cs zv.cells m1.rp hf
  have hb : P.built t ((ps.map fun (i, x) => (i, ρ x)).toList) = some us.toArray := by
    unfold Program.built
    simp only [h1, hu, h2, hpl, Array.toList_map]
    simpa using hu1
  refine .pure hi (v := .agg us.toArray) ?_ (.agg us hu2.1 hu2.2)
  simp [execOp, hop, run_build w t _ _ hb]

/-! ### a slice literal -/
theorem rep_get {α : Type} (z : List α) (n i : Nat) (hi : i < n) : (List.replicate n z)[i]? = some z := by rw [List.getElem?_replicate, if_pos hi]
theorem zero_row (zs : Array Value) (n : Nat) (hz : 0 < zs.size) : ((Array.range (n * zs.size)).map fun i => zs[i % zs.size]!).toList = (List.replicate n zs.toList).flatten := by
  apply List.ext_getElem?
  intro j
  have hl : (List.replicate n zs.toList).flatten.length = n * zs.size := by
    rw [flat_length (sz := zs.size) (fun x hx => by rw [List.eq_of_mem_replicate hx]; simp)]; simp
  rcases Nat.lt_or_ge j (n * zs.size) with hj | hj
  · have hm : j % zs.size < zs.size := Nat.mod_lt _ hz
    have hd : j / zs.size < n := (Nat.div_lt_iff_lt_mul hz).2 hj
    have h2 := flat_get (sz := zs.size) (xs := List.replicate n zs.toList) (fun x hx => by rw [List.eq_of_mem_replicate hx]; simp) (rep_get zs.toList n _ hd) hm
    rw [Nat.mul_comm, Nat.div_add_mod] at h2
    rw [h2]
    simp [hj, getElem!_pos zs (j % zs.size) hm, List.getElem?_eq_getElem, hm]
  · rw [List.getElem?_eq_none (by simpa using hj), List.getElem?_eq_none (by omega)]
theorem fillR_ok {sz : Nat} (hsz : 0 < sz) : ∀ (ps : List (Nat × Value)) (ds : List D), ImL w I ds (ps.map (·.2)) → ∀ (xs ys : List (List D)) (zv : Array Value), (∀ x ∈ xs, x.length = sz) → (∀ x ∈ xs, ∀ d ∈ x, D.leaf d = true) → ImL w I xs.flatten zv.toList →
    fillR sz xs ((ps.map (·.1)).zip ds) = some ys → ∃ us : List Value, Instr.fill (fun i => some (i * sz, sz)) zv ps = some us.toArray ∧ ys.length = xs.length ∧ (∀ x ∈ ys, x.length = sz) ∧ (∀ x ∈ ys, ∀ d ∈ x, D.leaf d = true) ∧ ImL w I ys.flatten us
  | [], ds, hd, xs, ys, zv, h1, h2, h3, hf => by
    simp only [List.map_nil, List.zip_nil_left, fillR, Option.some.injEq] at hf
    subst hf
    exact ⟨zv.toList, by simp [Instr.fill], rfl, h1, h2, h3⟩
  | (i, v) :: r, [], hd, xs, ys, zv, h1, h2, h3, hf => absurd hd.1 (by simp)
  | (i, v) :: r, d :: ds, hd, xs, ys, zv, h1, h2, h3, hf => by
    obtain ⟨v', r', he, hm, hr⟩ := hd.inv
    simp only [List.map_cons, List.cons.injEq] at he
    obtain ⟨rfl, rfl⟩ := he
    simp only [List.map_cons, List.zip_cons_cons, fillR] at hf
    split at hf
    · rename_i cs hcs
      split at hf
      · rename_i hc
        obtain ⟨hc1, hc2, hc3⟩ := hc
        obtain ⟨m1, m2⟩ := Rp.cells (μ := fun _ => none) (.im hm) hcs
        have hlen : xs.flatten.length = zv.size := by simpa using h3.1
        have hfl := flat_length h1
        have hfit : i * sz + sz ≤ xs.length * sz := by rw [← Nat.succ_mul]; exact Nat.mul_le_mul_right _ hc2
        have hvs : v.cells.size = sz := by
          have h2 : v.cells.toList.length = v.cells.size := by simp
          have := m1.1
          omega
        have hx : xs[i]? = some xs[i] := List.getElem?_eq_getElem hc2
        have hxl : xs[i].length = sz := h1 _ (List.getElem_mem hc2)
        have hset : xs.set i (spl xs[i] 0 cs) = xs.set i cs := by
          congr 1
          unfold spl
          rw [List.take_zero, Nat.zero_add, List.drop_eq_nil_of_le (by omega)]
          simp
        have hflat := flat_set (o := 0) (ds := cs) h1 hx (by omega)
        rw [hset, Nat.add_zero] at hflat
        obtain ⟨us, hu1, hu2, hu3, hu4, hu5⟩ := fillR_ok hsz r ds hr (xs.set i cs) ys (spl zv.toList (i * sz) v.cells.toList).toArray (fun x hx => by
            rcases List.mem_or_eq_of_mem_set hx with hx | rfl
            · exact h1 x hx
            · exact hc1) (fun x hx d hd => by
            rcases List.mem_or_eq_of_mem_set hx with hx | rfl
            · exact h2 x hx d hd
            · exact m2 d hd) (by rw [hflat]; simpa using h3.spl (m1.imF_of hc3) (i * sz)) hf
        refine ⟨us, ?_, by rw [hu2, List.length_set], hu3, hu4, hu5⟩
        simp only [Instr.fill]
        rw [if_neg (by simp [hvs]; omega), fold_spl _ _ _ (by omega)]
        exact hu1
      · cases hf
    · cases hf
theorem cQs_map : ∀ {ps : List (Nat × Operand)} {qs : List (Nat × X)}, cQs ps = some qs → OpsOk w I μ e ρ → qs.map (·.1) = ps.map (·.1) ∧ RpL w I μ (qs.map fun p => p.2.ev e) (ps.map fun p => ρ p.2)
  | [], qs, hq, ho => by
    obtain rfl := Option.some.inj hq
    exact ⟨rfl, .nil⟩
  | (i, x) :: r, qs, hq, ho => by
    simp only [cQs, Option.bind_eq_some_iff] at hq
    obtain ⟨y, hy, q, hq2, he⟩ := hq
    obtain rfl := Option.some.inj he
    obtain ⟨h1, h2⟩ := cQs_map hq2 ho
    exact ⟨by simp [h1], .cons (ho x y hy) h2⟩
/-- A new row. -/
theorem Inv.newRow (hi : Inv B w0 I μ h w) (hk : μ k = none) {ety sz n : Nat} {xs : List (List D)} {us : List Value} (hsz : 0 < sz) (h1 : ∀ x ∈ xs, x.length = sz) (h2 : ∀ x ∈ xs, ∀ d ∈ x, D.leaf d = true) (h3 : ImL w I xs.flatten us) (hn : xs.length = n) (hm : n ≤ maxLen) :
    Inv B w0 I (mput μ k ⟨some w.heap.size, sz, .slice (some ⟨w.heap.size, 0, none⟩) n n⟩) (hput h k (.row ety sz xs true)) (w.alloc (.cells us.toArray ety)) ∧ Go1 I I μ (mput μ k ⟨some w.heap.size, sz, .slice (some ⟨w.heap.size, 0, none⟩) n n⟩) w (w.alloc (.cells us.toArray ety)) ∧
      (∀ l, μ l = none → l ≠ k → mput μ k ⟨some w.heap.size, sz, .slice (some ⟨w.heap.size, 0, none⟩) n n⟩ l = none) ∧ Rp (w.alloc (.cells us.toArray ety)) I (mput μ k ⟨some w.heap.size, sz, .slice (some ⟨w.heap.size, 0, none⟩) n n⟩) (.osl k) (.slice (some ⟨w.heap.size, 0, none⟩) n n) := by
  have g := go_new (k := k) hi hk ⟨some w.heap.size, sz, .slice (some ⟨w.heap.size, 0, none⟩) n n⟩ (.cells us.toArray ety)
  have hlen : us.toArray.size = n * sz := by
    have := h3.1; rw [flat_length h1, hn] at this; simpa using this.symm
  have hown := World.ownsRow_lit (e := ety) (base := B) (size := sz) w us.toArray n hi.hB hm hlen
  obtain ⟨k1, k2, k3⟩ := hi.new hk ⟨some w.heap.size, sz, .slice (some ⟨w.heap.size, 0, none⟩) n n⟩ (.row ety sz xs true) (.cells us.toArray ety) (fun b hb => (Option.some.inj hb).symm)
    ⟨_, us, mput_same _ _ _, rfl, hsz, rfl, by rw [hn]; simpa using hown, h1, h2, h3.go g, fun _ b hb hI => by obtain rfl := Option.some.inj hb; have := hi.lt _ hI; omega, fun hf => by cases hf⟩
  exact ⟨k1, k2, k3, .osl (mput_same _ _ _) rfl⟩
theorem bsl_ok (hi : Inv B w0 I μ h w) (ho : OpsOk w I μ e ρ) (hk : μ k = none) {o : Oper} {t et : TypeId} {n : Nat} {ps : Array (Nat × Operand)} (hop : o.op = .buildSlice t n ps) (hu : P.underlying t = some (.slice et)) {z : List D} (hz : zCells P et = some z) (hn : n * z.length ≤ 16777216) (hz0 : z.length ≠ 0)
    {qs : List (Nat × X)} (hq : cQs ps.toList = some qs) {ds : List D} (hf : frzL (fun h d => frz 9 h d) h (qs.map fun p => p.2.ev e) = some (ds, h')) {xs : List (List D)} (hr : fillR z.length (List.replicate n z) ((qs.map (·.1)).zip ds) = some xs) :
    Res P B w0 I μ w k (execOp ρ o) (.osl k) (hput h' k (.row et z.length xs true)) := by
  obtain ⟨i, zv, h1, h2, h3, h4, h5⟩ := zCells_inv hz
  obtain ⟨q1, q2⟩ := cQs_map (w := w) (I := I) (μ := μ) (e := e) (ρ := ρ) hq ho
  obtain ⟨I1, g1, i1, m1, n1, l1⟩ := frzL_ok (fun I h h' d d' v => frz_ok 9 I h h' d d' v) _ I h h' ds _ hf hi q2
  obtain ⟨z1, z2, z3⟩ := cCells_im (w := w) (I := I1) h3
  have hzv : zv.cells.size = z.length := by omega
  have hrep : ImL w I1 (List.replicate n z).flatten ((Array.range (n * zv.cells.size)).map fun i => zv.cells[i % zv.cells.size]!).toList := by
    rw [zero_row zv.cells n (by omega)]
    have : ∀ n, ImL w I1 (List.replicate n z).flatten (List.replicate n zv.cells.toList).flatten := by
      intro n
      induction n with
      | zero => simp; exact .nil
      | succ n ih => simp only [List.replicate_succ, List.flatten_cons]; exact z1.app ih
    exact this n
  have hps : (ps.map fun (i, x) => (i, ρ x)).toList = ps.toList.map fun p => (p.1, ρ p.2) := by simp
  have hq1 : (qs.map (·.1)) = ((ps.toList.map fun p => (p.1, ρ p.2)).map (·.1)) := by rw [q1]; simp
  rw [hq1] at hr
  obtain ⟨us, hu1, hu2, hu3, hu4, hu5⟩ := fillR_ok (w := w) (I := I1) (sz := z.length) (by omega) (ps.toList.map fun p => (p.1, ρ p.2)) ds (by rw [List.map_map]; exact m1) (List.replicate n z) xs _ (fun x hx => by rw [List.eq_of_mem_replicate hx]) (fun x hx d hd => by rw [List.eq_of_mem_replicate hx] at hd; exact z2 d hd) hrep hr
  have hxl : xs.length = n := by rw [hu2]; simp
  obtain ⟨k1, k2, k3, k4⟩ := i1.newRow (k := k) (ety := et) hk (by omega) hu3 hu4 hu5 hxl (by unfold maxLen; have := Nat.le_mul_of_pos_right n (show 0 < z.length by omega); omega)
  refine ⟨_, _, _, I1, _, ?_, .inl rfl, k4, k1, g1.trans k2, k3, fun b hb => (n1.1 b hb).imp id (fun ho => (ho.ge hi).2.2)⟩
  have hsize : (sizeOf et).run P w = .ok z.length w := szT_run (by unfold szT; rw [h1]; simp; omega)
  have hnz : ¬ 16777216 < n * z.length := by omega
  rw [hzv] at hu1
  by_cases hn0 : n * z.length = 0
  · have : n = 0 := by rcases Nat.mul_eq_zero.1 hn0 with h | h <;> omega
    subst this
    simp only [Nat.zero_mul, Array.range_zero', Array.map_empty] at hu1
    simp [execOp, hop, Instr.buildSlice, run_underlying hu, hsize, hps, Go.newRow, hu1, Array.range_zero']
  · simp [execOp, hop, Instr.buildSlice, run_underlying hu, hsize, hnz, hn0, zeroValue, typeInfo, h1, h2, hps, Go.newRow, hzv, hu1]
end
end Go.Proofs.Ytbpccdengeakgaa.AE
