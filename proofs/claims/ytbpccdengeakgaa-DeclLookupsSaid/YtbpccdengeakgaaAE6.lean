/-
  AE, part 6: stores.
-/
import Derived.Test.YtbpccdengeakgaaAE5
set_option linter.unusedVariables false
set_option linter.unusedSimpArgs false
namespace Go.Proofs.Ytbpccdengeakgaa.AE
open Go Go.RowKit
section
variable {P : Program} {B : Nat} {w0 w w' : World} {I I' : Nat → Prop} {μ μ' : Mu} {h h' : Hp} {e : Env} {ρ : Operand → Value} {d : D} {v : Value} {k : Nat}
theorem Rp.one (hr : Rp w I μ d v) (hl : d.leaf = true) : v.oneCell' = true := by
  cases hr with
  | im hm => exact hm.one hl
  | agg vs hs h => cases hl
  | tup vs hs h => cases hl
  | _ => rfl
theorem spl_nil {α : Type} (cs : List α) (o : Nat) : spl cs o [] = cs := by unfold spl; simp
theorem spl_cons {α : Type} (cs : List α) (o : Nat) (u : α) (r : List α) (h : o + (r.length + 1) ≤ cs.length) : spl (cs.set o u) (o + 1) r = spl cs o (u :: r) := by
  unfold spl
  have h1 : (cs.set o u).take (o + 1) = cs.take o ++ [u] := by
    rw [List.take_set, List.take_succ_eq_append_getElem (by omega), List.set_append_right _ _ (by simp; omega)]
    simp [show o - min o cs.length = 0 by omega]
  have h2 : (cs.set o u).drop (o + 1 + r.length) = cs.drop (o + 1 + r.length) := by rw [List.drop_set]; rw [if_pos (by omega)]
  rw [h1, h2, List.length_cons, show o + (r.length + 1) = o + 1 + r.length by omega]
  simp
theorem setCells_keep (b : Nat) : ∀ (us : List Value) (o : Nat) (w : World), (w.setCells b o us).os = w.os ∧ (w.setCells b o us).tape = w.tape ∧ (w.setCells b o us).output = w.output ∧ (w.setCells b o us).heap.size = w.heap.size ∧ ∀ k, k ≠ b → (w.setCells b o us).heap[k]? = w.heap[k]?
  | [], _, w => ⟨rfl, rfl, rfl, rfl, fun _ _ => rfl⟩
  | u :: r, o, w => by
    obtain ⟨h1, h2, h3, h4, h5⟩ := setCells_keep b r (o + 1) (w.setCell ⟨b, o, none⟩ u)
    exact ⟨h1, h2, h3, h4.trans (by simp), fun k hk => (h5 k hk).trans (Below.heap_setCell w _ u k hk)⟩
theorem setCells_heap (b : Nat) (ty : TypeId) : ∀ (us : List Value) (o : Nat) (w : World) (vs : List Value), w.heap[b]? = some (.cells vs.toArray ty (0, 0)) → o + us.length ≤ vs.length → (w.setCells b o us).heap[b]? = some (.cells (spl vs o us).toArray ty (0, 0))
  | [], o, w, vs, hb, _ => by rw [spl_nil]; exact hb
  | u :: r, o, w, vs, hb, hl => by
    rw [World.setCells, ← spl_cons vs o u r (by simpa using hl)]
    refine setCells_heap b ty r (o + 1) _ (vs.set o u) ?_ (by simp at hl ⊢; omega)
    have := heap_setCell_same w b o vs.toArray ty u hb
    simpa using this
theorem RpL.spl {cs ds : List D} {vs us : List Value} (h1 : RpL w I μ cs vs) (h2 : RpL w I μ ds us) (o : Nat) : RpL w I μ (spl cs o ds) (spl vs o us) := by
  unfold AE.spl
  rw [h2.1]
  exact ((h1.take o).app h2).app (h1.drop _)
theorem ImL.take {cs : List D} {vs : List Value} (h : ImL w I cs vs) (n : Nat) : ImL w I (cs.take n) (vs.take n) := by
  refine ⟨by simp [h.1], fun j d v a b => ?_⟩
  rw [List.getElem?_take] at a b
  split at a
  · rename_i hj; rw [if_pos hj] at b; exact h.2 j d v a b
  · cases a
theorem ImL.drop {cs : List D} {vs : List Value} (h : ImL w I cs vs) (n : Nat) : ImL w I (cs.drop n) (vs.drop n) :=
  ⟨by simp [h.1], fun j d v a b => h.2 (n + j) d v (by rw [← List.getElem?_drop]; exact a) (by rw [← List.getElem?_drop]; exact b)⟩
theorem ImL.app {cs cs' : List D} {vs vs' : List Value} (h : ImL w I cs vs) (h2 : ImL w I cs' vs') : ImL w I (cs ++ cs') (vs ++ vs') := by
  induction cs generalizing vs with
  | nil => obtain rfl := h.inv0; exact h2
  | cons a r ih => obtain ⟨v, q, rfl, h3, h4⟩ := h.inv; exact .cons h3 (ih h4)
theorem ImL.spl {cs ds : List D} {vs us : List Value} (h1 : ImL w I cs vs) (h2 : ImL w I ds us) (o : Nat) : ImL w I (spl cs o ds) (spl vs o us) := by
  unfold AE.spl
  rw [h2.1]
  exact ((h1.take o).app h2).app (h1.drop _)
theorem spl_take {α : Type} (l us : List α) (o m : Nat) (h : o + us.length ≤ m) (hm : m ≤ l.length) : (spl l o us).take m = spl (l.take m) o us := by
  unfold spl
  have e1 : ((l.take o ++ us).length) = o + us.length := by simp; omega
  rw [List.take_append, List.take_of_length_le (show (l.take o ++ us).length ≤ m by omega), e1, List.take_take, show min o m = o by omega, List.drop_take]
theorem mem_spl {α : Type} {cs ds : List α} {o : Nat} {x : α} (h : x ∈ spl cs o ds) : x ∈ cs ∨ x ∈ ds := by
  unfold spl at h
  rcases List.mem_append.1 h with h | h
  · rcases List.mem_append.1 h with h | h
    · exact .inl (List.mem_of_mem_take h)
    · exact .inr h
  · exact .inl (List.mem_of_mem_drop h)

theorem put_go (hi : Inv B w0 I μ h w) {l b : Nat} {p : Pl} (hp : μ l = some p) (hb : p.b = some b) (ho : (h l).isOwn = true) (o : Nat) (us : List Value) : Go1 I I μ μ w (w.setCells b o us) ∧ Below B w (w.setCells b o us) := by
  obtain ⟨h1, h2, h3⟩ := (hi.ob l).lt hp hb ho
  obtain ⟨k1, k2, k3, k4, k5⟩ := setCells_keep b us o w
  exact ⟨⟨fun _ h => h, fun c hc => k5 c (fun e => h2 (e ▸ hc)), fun _ _ h => h⟩, k1, k2, k3, by rw [k4]; exact Nat.le_refl _, fun c hc => k5 c (by omega)⟩
theorem putAt_ok (hi : Inv B w0 I μ h w) (hv : Rp w I μ d v) {n : Nat} {cs : List D} {us : List Value} (hu : RpL w I μ cs us) (hl : ∀ d ∈ cs, D.leaf d = true) (hp : putAt h n cs d = some h') :
    ∃ b o, v = .pointer (some ⟨b, o, none⟩) ∧ us.length = n ∧ (∀ j, j < us.length → (w.cell? ⟨b, o + j, none⟩).isSome = true) ∧ (∀ j, j < us.length → w.frozen? ⟨b, o + j, none⟩ = false) ∧ Inv B w0 I μ h' (w.setCells b o us) ∧ Go1 I I μ μ w (w.setCells b o us) := by
  cases d with
  | ptr l i o =>
    have hp0 : ∃ p b, μ l = some p ∧ p.b = some b ∧ v = .pointer (some ⟨b, i * p.sz + o, none⟩) := by
      cases hv with
      | im hm => cases hm
      | ptr h1 h2 => exact ⟨_, _, h1, h2, rfl⟩
    obtain ⟨p, b, hpl, hb, rfl⟩ := hp0
    have ho := hi.ob l
    simp only [putAt] at hp
    cases hlk : h l with
    | no => rw [hlk] at hp; cases hp
    | mp es => rw [hlk] at hp; cases hp
    | var cs' own =>
      rw [hlk] at hp ho
      cases own with
      | false => cases hp
      | true =>
        simp only at hp
        split at hp
        · rename_i hc
          obtain ⟨rfl, hc2, hc3⟩ := hc
          obtain rfl := Option.some.inj hp
          obtain ⟨p', b', vs, ty, h1, h2, h3, h4, h5, h6, h7, h8⟩ := ho
          rw [hpl] at h1; obtain rfl := Option.some.inj h1; rw [hb] at h2; obtain rfl := Option.some.inj h2
          have hlen : us.length = n := by rw [← hu.1]; exact hc3
          have hfit : o + us.length ≤ vs.length := by rw [← h6.1]; omega
          obtain ⟨g, hbel⟩ := put_go hi hpl hb (by rw [hlk]; rfl) o us
          refine ⟨b, o, by simp, hlen, fun j hj => ?_, fun j hj => frozen_of_row w b (o + j) _ ty h4, ?_, g⟩
          · rw [cell_of_row w b (o + j) vs.toArray ty (0, 0) h4]; simp; omega
          · refine hi.put g hbel (fun c hc => by rw [(setCells_keep b us o w).2.2.2.1]; exact hi.lt c hc) (l := l) (o := .var (spl cs' o cs) true) _ (fun j hj => .inl (hput_ne h _ hj)) (hput_same h l _) ?_ ?_
            · refine ⟨p, b, _, ty, hpl, hb, h3, setCells_heap b ty us o w vs h4 hfit, fun d hd => ?_, (h6.go g).spl (hu.go g) o, h7, fun hf => by cases hf⟩
              rcases mem_spl hd with hd | hd
              · exact h5 d hd
              · exact hl d hd
            · intro j q c hj _ hoj hq hqc
              obtain ⟨o1, o2, o3⟩ := (hi.ob j).lt hq hqc hoj
              have hne : c ≠ b := fun e => hi.dis j l q p c hj hoj (by rw [hlk]; rfl) hq hpl hqc (by rw [e]; exact hb)
              exact ⟨(setCells_keep b us o w).2.2.2.2 c hne, o2, fun _ p' hp' => by rw [hpl] at hp'; obtain rfl := Option.some.inj hp'; rw [hb]; intro he; exact hne (Option.some.inj he).symm⟩
        · cases hp
    | row ety sz xs own =>
      rw [hlk] at hp ho
      cases own with
      | false => cases hp
      | true =>
        simp only at hp
        split at hp
        · rename_i x hx
          split at hp
          · rename_i hc
            obtain ⟨hc2, hc3, hc4⟩ := hc
            obtain rfl := Option.some.inj hp
            obtain ⟨p', cells, h1, h2, h3, h4, h5, h6, h7, h8, h9, h10⟩ := ho
            rw [hpl] at h1; obtain rfl := Option.some.inj h1
            have hlen : us.length = n := by rw [← hu.1]; exact hc3
            have hxl : x.length = sz := h6 x (List.mem_of_getElem? hx)
            have hflen : xs.flatten.length = cells.length := h8.1
            have hfl := flat_length h6
            have hix : i < xs.length := (List.getElem?_eq_some_iff.1 hx).1
            have hfit : i * sz + sz ≤ xs.length * sz := by rw [← Nat.succ_mul]; exact Nat.mul_le_mul_right _ hix
            obtain ⟨g, hbel⟩ := put_go hi hpl hb (by rw [hlk]; rfl) (i * sz + o) us
            rcases h5.2 with ⟨hv0, _⟩ | ⟨gb, cap, cur, hv0, hBg, hg, hnc, hcm, hcs, htake⟩
            · rw [h4, hv0] at hb; simp [Value.ownBlock] at hb
            · have hgb : gb = b := by rw [h4, hv0] at hb; simpa [Value.ownBlock] using hb
              subst hgb
              have hcap : xs.length * sz ≤ cap * sz := Nat.mul_le_mul_right _ hnc
              have hlc : cur.toList.length = cap * sz := by simpa using hcs
              have hroom : i * sz + o + us.length ≤ cur.toList.length := by omega
              have hg' : w.heap[gb]? = some (.cells cur.toList.toArray ety (0, 0)) := by simpa using hg
              have hh := setCells_heap gb ety us (i * sz + o) w cur.toList hg' hroom
              refine ⟨gb, i * sz + o, by rw [h2], hlen, fun j hj => ?_, fun j hj => frozen_of_row w gb _ _ ety hg, ?_, g⟩
              · rw [cell_of_row w gb _ cur ety (0, 0) hg]; simp [hcs]; omega
              · refine hi.put g hbel (fun c hc => by rw [(setCells_keep gb us _ w).2.2.2.1]; exact hi.lt c hc) (l := l) (o := .row ety sz (xs.set i (spl x o cs)) true) _ (fun j hj => .inl (hput_ne h _ hj)) (hput_same h l _) ?_ ?_
                · have hcl : o + cs.length ≤ x.length := by omega
                  have him := (hu.go g).imF_of hc4
                  refine ⟨p, spl cells (i * sz + o) us, hpl, h2, h3, h4, ⟨?_, .inr ⟨gb, cap, (spl cur.toList (i * sz + o) us).toArray, by rw [hv0]; simp, hBg, hh, by simpa using hnc, hcm, by simp [spl_length hroom, hcs], ?_⟩⟩, fun y hy => ?_, fun y hy d hd => ?_, ?_, h9, fun hf => by cases hf⟩
                  · rw [spl_length (by omega)]; simp; omega
                  · rw [List.length_set]
                    simp only
                    rw [spl_take _ _ _ _ (by omega) (by omega), htake]
                  · rcases List.mem_or_eq_of_mem_set hy with hy | rfl
                    · exact h6 y hy
                    · rw [spl_length hcl]; exact hxl
                  · rcases List.mem_or_eq_of_mem_set hy with hy | rfl
                    · exact h7 y hy d hd
                    · rcases mem_spl hd with hd | hd
                      · exact h7 x (List.mem_of_getElem? hx) d hd
                      · exact hl d hd
                  · rw [flat_set h6 hx hcl]
                    exact (h8.go g).spl him _
                · intro j q c hj _ hoj hq hqc
                  obtain ⟨o1, o2, o3⟩ := (hi.ob j).lt hq hqc hoj
                  have hne : c ≠ gb := fun e => hi.dis j l q p c hj hoj (by rw [hlk]; rfl) hq hpl hqc (by rw [e]; exact hb)
                  exact ⟨(setCells_keep gb us _ w).2.2.2.2 c hne, o2, fun _ p' hp' => by rw [hpl] at hp'; obtain rfl := Option.some.inj hp'; rw [hb]; intro he; exact hne (Option.some.inj he).symm⟩
          · cases hp
        · cases hp
  | _ => cases hp
theorem store_ok (hi : Inv B w0 I μ h w) (ho : OpsOk w I μ e ρ) {o : Oper} {t : TypeId} {x x2 : Operand} (hop : o.op = .store t x x2) {n : Nat} {y y2 : X} (hn : szT P t = some n) (hx : cX x = some y) (hx2 : cX x2 = some y2)
    {cs : List D} (hc : (y2.ev e).cells = some cs) (hp : putAt h n cs (y.ev e) = some h') : Res P B w0 I μ w k (execOp ρ o) .und h' := by
  obtain ⟨h1, h2⟩ := (ho x2 y2 hx2).cells hc
  obtain ⟨b, off, hv, hl, hc1, hc2, hinv, hgo⟩ := putAt_ok hi (ho x y hx) h1 h2 hp
  have h3 : ∀ u ∈ (ρ x2).cells.toList, u.oneCell' = true := by
    intro u hu
    obtain ⟨j, hj⟩ := List.mem_iff_getElem?.1 hu
    have hjl : j < cs.length := by have := (List.getElem?_eq_some_iff.1 hj).1; rw [h1.1]; exact this
    exact (h1.2 j cs[j] u (List.getElem?_eq_getElem hjl) hj).one (h2 cs[j] (List.getElem_mem hjl))
  have hrun := run_storeCells_cells (P := P) b off (ρ x2).cells.toList 0 w (by simpa using hc1) (by simpa using hc2) h3
  refine ⟨.skip, undef, _, I, μ, ?_, .inr ⟨rfl, rfl⟩, .im .und, hinv, hgo, fun _ h _ => h, fun _ h => .inl h⟩
  unfold szT at hn
  obtain ⟨i, hi2, hs⟩ := Option.map_eq_some_iff.1 hn
  have hsz : ¬ (ρ x2).cells.size ≠ i.size := by rw [hs, ← Array.length_toList, hl]; simp
  simp only [Nat.add_zero] at hrun
  simp [execOp, hop, hv, Instr.storeAt, Instr.sureAddr, storeVar, sizeOf, typeInfo, hi2, hsz, hrun]
end
end Go.Proofs.Ytbpccdengeakgaa.AE
