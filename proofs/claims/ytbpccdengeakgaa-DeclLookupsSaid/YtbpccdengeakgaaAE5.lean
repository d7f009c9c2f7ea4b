/-
  AE, part 5: new blocks, loads, stores, frozen blocks.
-/
import Derived.Test.YtbpccdengeakgaaAE4
set_option linter.unusedVariables false
set_option linter.unusedSimpArgs false
namespace Go.Proofs.Ytbpccdengeakgaa.AE
open Go Go.RowKit

def mput (μ : Mu) (k : Nat) (p : Pl) : Mu := fun l => if l = k then some p else μ l
theorem mput_same (μ : Mu) (k : Nat) (p : Pl) : mput μ k p k = some p := by simp [mput]
theorem mput_ne (μ : Mu) {k l : Nat} (p : Pl) (h : l ≠ k) : mput μ k p l = μ l := by simp [mput, h]
section
variable {P : Program} {B : Nat} {w0 w w' : World} {I I' : Nat → Prop} {μ μ' : Mu} {h h' : Hp} {e : Env} {ρ : Operand → Value} {d : D} {v : Value} {k : Nat}

theorem mput_go (hk : μ k = none) (p : Pl) : ∀ l q, μ l = some q → mput μ k p l = some q := by
  intro l q hl
  by_cases he : l = k
  · subst he; rw [hk] at hl; cases hl
  · rw [mput_ne _ _ he]; exact hl
theorem heap_alloc (w : World) (o : Obj) (b : Nat) (hb : b < w.heap.size) : (w.alloc o).heap[b]? = w.heap[b]? := Below.heap_alloc w o b hb
/-- A new block. -/
theorem Inv.new (hi : Inv B w0 I μ h w) (hk : μ k = none) (p : Pl) (o : Ob) (ob : Obj) (hp : ∀ b, p.b = some b → b = w.heap.size) (hol : ObOk B I (mput μ k p) (w.alloc ob) k o) :
    Inv B w0 I (mput μ k p) (hput h k o) (w.alloc ob) ∧ Go1 I I μ (mput μ k p) w (w.alloc ob) ∧ (∀ l, μ l = none → l ≠ k → mput μ k p l = none) := by
  have g : Go1 I I μ (mput μ k p) w (w.alloc ob) := ⟨fun _ h => h, fun b hb => heap_alloc w ob b (hi.lt b hb), mput_go hk p⟩
  refine ⟨hi.put g ((Below.refl B w).alloc hi.hB ob) (fun b hb => by have := hi.lt b hb; simp; omega) (hput h k o) (l := k) (o := o) (fun j hj => .inl (hput_ne h o hj)) (hput_same h k o) hol ?_, g, fun l hl hne => by rw [mput_ne _ _ hne]; exact hl⟩
  intro j q b hj _ ho hq hb
  obtain ⟨h1, h2, h3⟩ := (hi.ob j).lt hq hb ho
  refine ⟨heap_alloc w ob b h1, h2, fun _ p' hp' hb' => ?_⟩
  rw [mput_same] at hp'
  obtain rfl := Option.some.inj hp'
  have := hp b hb'
  omega
theorem go_new (hi : Inv B w0 I μ h w) (hk : μ k = none) (p : Pl) (ob : Obj) : Go1 I I μ (mput μ k p) w (w.alloc ob) := ⟨fun _ h => h, fun b hb => heap_alloc w ob b (hi.lt b hb), mput_go hk p⟩
/-- A new variable. -/
theorem Inv.newVar (hi : Inv B w0 I μ h w) (hk : μ k = none) {cs : List D} {vs : List Value} (ty : TypeId) (hv : RpL w I μ cs vs) (hl : ∀ d ∈ cs, D.leaf d = true) :
    Inv B w0 I (mput μ k ⟨some w.heap.size, 0, .nilFunc⟩) (hput h k (.var cs true)) (w.alloc (.cells vs.toArray ty)) ∧ Go1 I I μ (mput μ k ⟨some w.heap.size, 0, .nilFunc⟩) w (w.alloc (.cells vs.toArray ty)) ∧
      (∀ l, μ l = none → l ≠ k → mput μ k ⟨some w.heap.size, 0, .nilFunc⟩ l = none) ∧ Rp (w.alloc (.cells vs.toArray ty)) I (mput μ k ⟨some w.heap.size, 0, .nilFunc⟩) (.ptr k 0 0) (.pointer (some ⟨w.heap.size, 0, none⟩)) := by
  have g := go_new (k := k) hi hk ⟨some w.heap.size, 0, .nilFunc⟩ (.cells vs.toArray ty)
  obtain ⟨h1, h2, h3⟩ := hi.new hk ⟨some w.heap.size, 0, .nilFunc⟩ (.var cs true) (.cells vs.toArray ty) (fun b hb => (Option.some.inj hb).symm)
    ⟨_, w.heap.size, vs, ty, mput_same _ _ _, rfl, hi.hB, heap_alloc_new w _, hl, hv.go g, fun _ hI => by have := hi.lt _ hI; omega, fun hf => by cases hf⟩
  exact ⟨h1, h2, h3, by have := Rp.ptr (w := w.alloc (.cells vs.toArray ty)) (I := I) (i := 0) (o := 0) (mput_same μ k ⟨some w.heap.size, 0, .nilFunc⟩) rfl; simpa using this⟩

/-! ### loads -/
theorem sub_some {cs ds : List D} {o n : Nat} (hs : sub cs o n = some ds) : o + n ≤ cs.length ∧ ds = (cs.drop o).take n ∧ ds.length = n := by
  unfold sub at hs
  split at hs
  · rename_i hle
    obtain rfl := Option.some.inj hs
    exact ⟨hle, rfl, by simp; omega⟩
  · cases hs
theorem sub_get {cs ds : List D} {o n : Nat} (hs : sub cs o n = some ds) {j : Nat} {d : D} (hd : ds[j]? = some d) : cs[o + j]? = some d ∧ j < n := by
  obtain ⟨h1, rfl, h3⟩ := sub_some hs
  have hj : j < n := by have := (List.getElem?_eq_some_iff.1 hd).1; omega
  rw [List.getElem?_take, if_pos hj, List.getElem?_drop] at hd
  exact ⟨hd, hj⟩
/-- A row of elements: the values of its cells. -/
theorem row_cell {sz n : Nat} {cells : List Value} {v : Value} {b : Nat} {ety : TypeId} (ho : w.ownsRow B ety sz v n cells) (hb : v.ownBlock = some b) {j : Nat} {u : Value} (hj : cells[j]? = some u) : w.cell? ⟨b, j, none⟩ = some u := by
  rcases ho.2 with ⟨rfl, _⟩ | ⟨g, cap, cur, rfl, _, hg, _, _, _, ht⟩
  · simp [Value.ownBlock] at hb
  · have : g = b := by simpa [Value.ownBlock] using hb
    subst this
    rw [cell_of_row w g j cur ety (0, 0) hg]
    rw [← ht, List.getElem?_take] at hj
    split at hj
    · simpa using hj
    · cases hj
/-- What lies behind a pointer. -/
theorem cellsAt_ok (hi : Inv B w0 I μ h w) (hv : Rp w I μ d v) {n : Nat} {cs : List D} (hc : cellsAt h n d = some cs) :
    ∃ ad us, v = .pointer (some ad) ∧ us.length = n ∧ RpL w I μ cs us ∧ (∀ d ∈ cs, D.leaf d = true) ∧ ∀ (j : Nat) (u : Value), us[j]? = some u → w.cell? (ad.add j) = some u := by
  cases d with
  | ipt cs' o =>
    have hs : sub cs' o n = some cs := hc
    obtain ⟨h1, h2, h3⟩ := sub_some hs
    cases hv with
    | im hm =>
      cases hm with
      | ipt f hI hlf hcell hr =>
        rename_i ad
        refine ⟨ad, (List.range n).map f, rfl, by simp, ⟨by simp [h3], fun j d v hd hv => ?_⟩, fun d hd => hlf d (by rw [h2] at hd; exact List.mem_of_mem_drop (List.mem_of_mem_take hd)), fun j u hu => ?_⟩
        · obtain ⟨hd1, hj⟩ := sub_get hs hd
          rw [List.getElem?_map, List.getElem?_range hj] at hv
          obtain rfl := Option.some.inj hv
          exact .im (hr j d hd1)
        · rw [List.getElem?_map] at hu
          obtain ⟨j', hj', rfl⟩ := Option.map_eq_some_iff.1 hu
          have hlt : j < n := by
            have := (List.getElem?_eq_some_iff.1 hj').1
            simpa using this
          rw [List.getElem?_range hlt] at hj'
          obtain rfl := Option.some.inj hj'
          exact hcell j cs[j] (sub_get hs (List.getElem?_eq_getElem (by omega))).1
  | ptr l i o =>
    have hp : ∃ p b, μ l = some p ∧ p.b = some b ∧ v = .pointer (some ⟨b, i * p.sz + o, none⟩) := by
      cases hv with
      | im hm => cases hm
      | ptr h1 h2 => exact ⟨_, _, h1, h2, rfl⟩
    obtain ⟨p, b, hp, hb, rfl⟩ := hp
    have ho := hi.ob l
    simp only [cellsAt] at hc
    cases hl : h l with
    | no => rw [hl] at hc; cases hc
    | mp es => rw [hl] at hc; cases hc
    | var cs' own =>
      rw [hl] at hc ho
      simp only at hc
      split at hc
      · rename_i hi0
        subst hi0
        obtain ⟨p', b', vs, ty, h1, h2, h3, h4, h5, h6, h7, h8⟩ := ho
        rw [hp] at h1; obtain rfl := Option.some.inj h1; rw [hb] at h2; obtain rfl := Option.some.inj h2
        obtain ⟨s1, s2, s3⟩ := sub_some hc
        refine ⟨_, (vs.drop o).take n, rfl, by have := h6.1; simp; omega, by rw [s2]; exact (h6.drop o).take n, fun d hd => h5 d (by rw [s2] at hd; exact List.mem_of_mem_drop (List.mem_of_mem_take hd)), fun j u hu => ?_⟩
        rw [Nat.zero_mul, Nat.zero_add, Addr.add_mid, cell_of_row w b (o + j) vs.toArray ty (0, 0) h4]
        rw [List.getElem?_take] at hu
        split at hu
        · rw [List.getElem?_drop] at hu; simpa using hu
        · cases hu
      · cases hc
    | row ety sz xs own =>
      rw [hl] at hc ho
      simp only at hc
      split at hc
      · rename_i x hx
        obtain ⟨p', cells, h1, h2, h3, h4, h5, h6, h7, h8, h9, h10⟩ := ho
        rw [hp] at h1; obtain rfl := Option.some.inj h1
        obtain ⟨s1, s2, s3⟩ := sub_some hc
        have hxl : x.length = sz := h6 x (List.mem_of_getElem? hx)
        have hlen : xs.flatten.length = cells.length := h8.1
        have hfl := flat_length h6
        have hix : i < xs.length := (List.getElem?_eq_some_iff.1 hx).1
        have hfit : i * sz + sz ≤ xs.length * sz := by rw [← Nat.succ_mul]; exact Nat.mul_le_mul_right _ hix
        have key : ∀ j d, cs[j]? = some d → xs.flatten[i * sz + o + j]? = some d := by
          intro j d hd
          obtain ⟨hd1, hj⟩ := sub_get hc hd
          rw [Nat.add_assoc, flat_get h6 hx (by omega)]
          exact hd1
        refine ⟨_, (cells.drop (i * sz + o)).take n, rfl, by simp; omega, ⟨by simp; omega, fun j d v hd hv => ?_⟩, fun d hd => h7 x (List.mem_of_getElem? hx) d (by rw [s2] at hd; exact List.mem_of_mem_drop (List.mem_of_mem_take hd)), fun j u hu => ?_⟩
        · rw [List.getElem?_take] at hv
          split at hv
          · rw [List.getElem?_drop] at hv
            exact .im (h8.2 _ d v (key j d hd) hv)
          · cases hv
        · rw [h2, Addr.add_mid]
          rw [List.getElem?_take] at hu
          split at hu
          · rw [List.getElem?_drop] at hu
            exact row_cell h5 (by rw [← h4]; exact hb) hu
          · cases hu
      · cases hc
  | _ => cases hc
theorem mkD_rp {ag : Bool} {cs : List D} {us : List Value} (hm : mkD ag cs = some d) (hu : RpL w I μ cs us) : (ag = true ∧ d = .agg cs ∧ Rp w I μ d (.agg us.toArray)) ∨ (ag = false ∧ cs = [d] ∧ ∃ u, us = [u] ∧ Rp w I μ d u) := by
  unfold mkD at hm
  split at hm
  · rename_i ha
    obtain rfl := Option.some.inj hm
    exact .inl ⟨ha, rfl, .agg us hu.1 hu.2⟩
  · rename_i ha
    split at hm
    · obtain rfl := Option.some.inj hm
      obtain ⟨u, r, rfl, h1, h2⟩ := hu.inv
      obtain rfl := h2.inv0
      exact .inr ⟨by simpa using ha, rfl, u, rfl, h1⟩
    · cases hm
theorem run_loadVar_at {t : TypeId} {n : Nat} {ag : Bool} (hn : szT P t = some n) (ha : agT P t = some ag) {ad : Addr} {us : List Value} (hl : us.length = n) (hc : ∀ (j : Nat) (u : Value), us[j]? = some u → w.cell? (ad.add j) = some u) :
    (ag = true → (loadVar t ad).run P w = .ok (.agg us.toArray) w) ∧ (ag = false → ∀ u, us = [u] → (loadVar t ad).run P w = .ok u w) := by
  unfold szT at hn
  obtain ⟨i, hi, hs⟩ := Option.map_eq_some_iff.1 hn
  unfold agT at ha
  obtain ⟨ds, hd, ha⟩ := Option.map_eq_some_iff.1 ha
  have hagg : (isAgg t).run P w = .ok ag w := by
    unfold isAgg
    rw [Sem.run_bind, run_underlying hd w]
    subst ha
    cases ds <;> simp [TypeDesc.isRow]
  refine ⟨fun h1 => ?_, fun h1 u hu => ?_⟩
  · subst h1
    have := run_loadCells_list (P := P) w ad us hc
    rw [hl] at this
    simp [loadVar, Sem.run_bind, hagg, sizeOf, typeInfo, hi, hs, this]
  · subst h1; subst hu
    have := hc 0 u rfl
    rw [show ad.add 0 = ad by simp [Addr.add]] at this
    simp [loadVar, Sem.run_bind, hagg, this]
theorem load_ok (hi : Inv B w0 I μ h w) (ho : OpsOk w I μ e ρ) {o : Oper} {t : TypeId} {x : Operand} (hop : o.op = .load t x) {n : Nat} {ag : Bool} {y : X} (hn : szT P t = some n) (ha : agT P t = some ag) (hx : cX x = some y)
    {cs : List D} (hc : cellsAt h n (y.ev e) = some cs) (hm : mkD ag cs = some d) : Res P B w0 I μ w k (execOp ρ o) d h := by
  obtain ⟨ad, us, hv, hl, hu, _, hcell⟩ := cellsAt_ok hi (ho x y hx) hc
  obtain ⟨r1, r2⟩ := run_loadVar_at (P := P) hn ha hl hcell
  rcases mkD_rp hm hu with ⟨ha, _, hr⟩ | ⟨ha, _, u, rfl, hr⟩
  · refine .pure hi ?_ hr
    simp [execOp, hop, hv, Instr.loadAt, Instr.sureAddr, r1 ha]
  · refine .pure hi ?_ hr
    simp [execOp, hop, hv, Instr.loadAt, Instr.sureAddr, r2 ha u rfl]
end
end Go.Proofs.Ytbpccdengeakgaa.AE
