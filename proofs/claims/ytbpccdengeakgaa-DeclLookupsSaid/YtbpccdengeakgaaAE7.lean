/-
  AE, part 7: freezing: a block of the call's own is given up.
-/
import Derived.Test.YtbpccdengeakgaaAE6
set_option linter.unusedVariables false
set_option linter.unusedSimpArgs false
namespace Go.Proofs.Ytbpccdengeakgaa.AE
open Go Go.RowKit
section
variable {P : Program} {B : Nat} {w0 w w' : World} {I I' : Nat → Prop} {μ μ' : Mu} {h h' : Hp} {e : Env} {ρ : Operand → Value} {d d' : D} {v : Value} {k : Nat}

/-- What more is not written from now on. -/
def addI (I : Nat → Prop) (p : Pl) : Nat → Prop := fun b => I b ∨ p.b = some b
theorem addI_go (p : Pl) : Go1 I (addI I p) μ μ w w := ⟨fun b hb => .inl hb, fun _ _ => rfl, fun _ _ h => h⟩
/-- The freezing of one block. -/
theorem Inv.freeze (hi : Inv B w0 I μ h w) {l : Nat} {p : Pl} (hp : μ l = some p) (hlt : ∀ b, p.b = some b → b < w.heap.size) (hfz : (h l).isOwn = false → ∀ b, p.b = some b → I b) {o : Ob} (ho : o.isOwn = false)
    (hol : ObOk B (addI I p) μ w l o) : Inv B w0 (addI I p) μ (hput h l o) w := by
  refine hi.put (addI_go p) (Below.refl _ _) (fun b hb => ?_) (l := l) (o := o) _ (fun j hj => .inl (hput_ne h o hj)) (hput_same h l o) hol ?_
  · rcases hb with hb | hb
    · exact hi.lt b hb
    · exact hlt b hb
  · intro j q c hj _ hoj hq hqc
    obtain ⟨o1, o2, o3⟩ := (hi.ob j).lt hq hqc hoj
    refine ⟨rfl, ?_, fun hf => by rw [ho] at hf; cases hf⟩
    rintro (hc | hc)
    · exact o2 hc
    · by_cases hol : (h l).isOwn = true
      · exact hi.dis j l q p c hj hoj hol hq hp hqc hc
      · exact o2 (hfz (by simpa using hol) c hc)
theorem row_im {ety sz : Nat} {xs : List (List D)} {cells : List Value} {v : Value} (h5 : w.ownsRow B ety sz v xs.length cells) (h6 : ∀ x ∈ xs, x.length = sz) (h7 : ∀ x ∈ xs, ∀ d ∈ x, D.leaf d = true) (h8 : ImL w I xs.flatten cells)
    (hI : ∀ b, v.ownBlock = some b → I b) : Im w I (.isl xs) v := by
  rcases h5.2 with ⟨rfl, hn⟩ | ⟨g, cap, cur, rfl, _, hg, hnc, _⟩
  · have : xs = [] := List.eq_nil_of_length_eq_zero hn
    subst this
    exact Im.isl (xs := []) (A := none) (c := 0) (sz := sz) (fun _ _ => undef) (Nat.le_refl _) (by simp) (by simp) (fun hne => absurd rfl hne) (fun i j x d hx => by simp at hx)
  · have key : ∀ i j x d, xs[i]? = some x → x[j]? = some d → cells[i * sz + j]? = some (cells.getD (i * sz + j) undef) ∧ Im w I d (cells.getD (i * sz + j) undef) := by
      intro i j x d hx hd
      have hj : j < sz := by have := (List.getElem?_eq_some_iff.1 hd).1; rw [h6 x (List.mem_of_getElem? hx)] at this; exact this
      have hf := flat_get h6 hx hj
      rw [hd] at hf
      obtain ⟨u, hu, hm⟩ := h8.get hf
      have : cells.getD (i * sz + j) undef = u := by simp [List.getD, hu]
      rw [this]
      exact ⟨hu, hm⟩
    refine .isl (sz := sz) (fun i j => cells.getD (i * sz + j) undef) hnc h6 h7 (fun _ => ⟨⟨g, 0, none⟩, rfl, hI g rfl, fun i j x d hx hd => ?_⟩) (fun i j x d hx hd => (key i j x d hx hd).2)
    have := row_cell (b := g) h5 rfl (key i j x d hx hd).1
    rw [Addr.add_mid, Nat.zero_add]
    exact this

/-- The blocks that are owned. -/
def OwnB (h : Hp) (μ : Mu) (b : Nat) : Prop := ∃ l p, (h l).isOwn = true ∧ μ l = some p ∧ p.b = some b
theorem OwnB.ge (hi : Inv B w0 I μ h w) {b : Nat} (ho : OwnB h μ b) : b < w.heap.size ∧ ¬ I b ∧ B ≤ b := by
  obtain ⟨l, p, h1, h2, h3⟩ := ho
  exact (hi.ob l).lt h2 h3 h1
theorem OwnB.sub {h h' : Hp} {b : Nat} (hs : ∀ l, (h' l).isOwn = true → (h l).isOwn = true) (ho : OwnB h' μ b) : OwnB h μ b := by
  obtain ⟨l, p, h1, h2, h3⟩ := ho
  exact ⟨l, p, hs l h1, h2, h3⟩
theorem own_sub_put {h : Hp} {l : Nat} {o : Ob} (ho : o.isOwn = false) : ∀ j, (hput h l o j).isOwn = true → (h j).isOwn = true := by
  intro j hj
  by_cases he : j = l
  · subst he; rw [hput_same, ho] at hj; cases hj
  · rw [hput_ne _ _ he] at hj; exact hj
/-- What freezing leaves. -/
def Fz (B : Nat) (w0 : World) (I : Nat → Prop) (μ : Mu) (w : World) (h : Hp) (d' : D) (h' : Hp) (v : Value) (lf : Bool) : Prop :=
  ∃ I', Go1 I I' μ μ w w ∧ Inv B w0 I' μ h' w ∧ Im w I' d' v ∧ ((∀ b, I' b → I b ∨ OwnB h μ b) ∧ ∀ l, (h' l).isOwn = true → (h l).isOwn = true) ∧ (lf = true → d'.leaf = true)
theorem frzL_ok {g : Hp → D → Option (D × Hp)} (hg : ∀ (I : Nat → Prop) (h h' : Hp) (d d' : D) (v : Value), g h d = some (d', h') → Inv B w0 I μ h w → Rp w I μ d v → Fz B w0 I μ w h d' h' v d.leaf) :
    ∀ (cs : List D) (I : Nat → Prop) (h h' : Hp) (cs' : List D) (vs : List Value), frzL g h cs = some (cs', h') → Inv B w0 I μ h w → RpL w I μ cs vs →
      ∃ I', Go1 I I' μ μ w w ∧ Inv B w0 I' μ h' w ∧ ImL w I' cs' vs ∧ ((∀ b, I' b → I b ∨ OwnB h μ b) ∧ ∀ l, (h' l).isOwn = true → (h l).isOwn = true) ∧ ((∀ d ∈ cs, D.leaf d = true) → ∀ d ∈ cs', D.leaf d = true)
  | [], I, h, h', cs', vs, he, hi, hv => by
    simp only [frzL, Option.some.injEq, Prod.mk.injEq] at he
    obtain ⟨rfl, rfl⟩ := he
    obtain rfl := hv.inv0
    exact ⟨I, .refl _ _ _, hi, .nil, ⟨fun b hb => .inl hb, fun l h => h⟩, fun h => h⟩
  | d :: r, I, h, h', cs', vs, he, hi, hv => by
    simp only [frzL, Option.bind_eq_some_iff, Option.some.injEq, Prod.mk.injEq] at he
    obtain ⟨p, hp, q, hq, rfl, rfl⟩ := he
    obtain ⟨v, vr, rfl, h1, h2⟩ := hv.inv
    obtain ⟨I1, g1, i1, m1, n1, l1⟩ := hg I h p.2 d p.1 v hp hi h1
    obtain ⟨I2, g2, i2, m2, n2, l2⟩ := frzL_ok hg r I1 p.2 q.2 q.1 vr hq i1 (h2.go g1)
    refine ⟨I2, g1.trans g2, i2, .cons (m1.go g2) m2, ⟨fun b hb => ?_, fun l h => n1.2 l (n2.2 l h)⟩, fun hl => ?_⟩
    · rcases n2.1 b hb with hb | hb
      · exact n1.1 b hb
      · exact .inr (hb.sub n1.2)
    · simp only [List.mem_cons, forall_eq_or_imp] at hl ⊢
      exact ⟨l1 hl.1, l2 hl.2⟩
theorem frz_ok : ∀ (n : Nat) (I : Nat → Prop) (h h' : Hp) (d d' : D) (v : Value), frz n h d = some (d', h') → Inv B w0 I μ h w → Rp w I μ d v → Fz B w0 I μ w h d' h' v d.leaf
  | 0, I, h, h', d, d', v, he, hi, hv => by cases he
  | n + 1, I, h, h', d, d', v, he, hi, hv => by
    have plain : ∀ {d : D}, Im w I d v → d.leaf = true ∨ d.leaf = false → Fz B w0 I μ w h d h v d.leaf := fun {d} hm _ => ⟨I, .refl _ _ _, hi, hm, ⟨fun b hb => .inl hb, fun l h => h⟩, fun h => h⟩
    have leafs : ∀ {d : D}, (d.leaf = true ∨ d.leaf = false) := fun {d} => by cases d.leaf <;> simp
    cases d with
    | osl l =>
      simp only [frz] at he
      have hoo := hi.ob l
      cases hl : h l with
      | row ety sz xs own =>
        rw [hl] at he hoo
        simp only [Option.some.injEq, Prod.mk.injEq] at he
        obtain ⟨rfl, rfl⟩ := he
        obtain ⟨p, cells, h1, h2, h3, h4, h5, h6, h7, h8, h9, h10⟩ := hoo
        have hval : v = p.val := by
          cases hv with
          | im hm => cases hm
          | osl h hv2 => rw [h1] at h; obtain rfl := Option.some.inj h; exact hv2.symm
        subst hval
        have hlt : ∀ b, p.b = some b → b < w.heap.size := fun b hb => (h5.lt b (by rw [← h4]; exact hb)).2
        have hol : ObOk B (addI I p) μ w l (.row ety sz xs false) := ⟨p, cells, h1, h2, h3, h4, h5, h6, h7, h8.go (addI_go (μ := μ) p), (fun hf => by cases hf), fun _ b hb => .inr hb⟩
        refine ⟨addI I p, addI_go p, hi.freeze h1 hlt (fun hf b hb => ?_) rfl hol, row_im h5 h6 h7 (h8.go (addI_go (μ := μ) p)) (fun b hb => .inr (by rw [h4]; exact hb)), ⟨fun b hb => ?_, own_sub_put rfl⟩, fun _ => rfl⟩
        · rw [hl] at hf; exact h10 hf b hb
        · rcases hb with hb | hb
          · exact .inl hb
          · cases own with
            | true => exact .inr ⟨l, p, by rw [hl]; rfl, h1, hb⟩
            | false => exact .inl (h10 rfl b hb)
      | _ => rw [hl] at he; cases he
    | ptr l i o =>
      simp only [frz] at he
      have hp0 : ∃ p b, μ l = some p ∧ p.b = some b ∧ v = .pointer (some ⟨b, i * p.sz + o, none⟩) := by
        cases hv with
        | im hm => cases hm
        | ptr h1 h2 => exact ⟨_, _, h1, h2, rfl⟩
      obtain ⟨p, b, hpl, hb, rfl⟩ := hp0
      have hoo := hi.ob l
      cases hl : h l with
      | var cs own =>
        rw [hl] at he hoo
        simp only at he
        split at he
        · rename_i hi0
          subst hi0
          obtain ⟨p', b', vs, ty, h1, h2, h3, h4, h5, h6, h7, h8⟩ := hoo
          rw [hpl] at h1; obtain rfl := Option.some.inj h1; rw [hb] at h2; obtain rfl := Option.some.inj h2
          simp only [Option.bind_eq_some_iff] at he
          obtain ⟨q, hq, he⟩ := he
          obtain ⟨I1, g1, i1, m1, n1, l1⟩ := frzL_ok (fun I h h' d d' v => frz_ok n I h h' d d' v) cs I h q.2 q.1 vs hq hi h6
          have hoo1 := i1.ob l
          cases hl1 : q.2 l with
          | var cs1 own1 =>
            rw [hl1] at he hoo1
            simp only [Option.some.injEq, Prod.mk.injEq] at he
            obtain ⟨rfl, rfl⟩ := he
            obtain ⟨p', b', vs', ty', k1, k2, k3, k4, k5, k6, k7, k8⟩ := hoo1
            rw [hpl] at k1; obtain rfl := Option.some.inj k1; rw [hb] at k2; obtain rfl := Option.some.inj k2
            have hlf := l1 h5
            have m2 : ImL w (addI I1 p) q.1 vs := m1.go (addI_go (μ := μ) p)
            have hol : ObOk B (addI I1 p) μ w l (.var q.1 false) := ⟨p, b, vs, ty, hpl, hb, h3, h4, hlf, m2.rp, (fun hf => by cases hf), fun _ => ⟨.inr hb, m2⟩⟩
            refine ⟨addI I1 p, g1.trans (addI_go p), i1.freeze hpl (fun c hc => ?_) (fun hf c hc => ?_) rfl hol, ?_, ⟨fun c hc => ?_, fun j hj => n1.2 j (own_sub_put rfl j hj)⟩, fun _ => rfl⟩
            · rw [hb] at hc; obtain rfl := Option.some.inj hc; exact (Array.getElem?_eq_some_iff.1 h4).1
            · rw [hb] at hc; obtain rfl := Option.some.inj hc; rw [hl1] at hf; exact (k8 hf).1
            · rw [Nat.zero_mul, Nat.zero_add]
              refine .ipt (fun j => vs.getD (o + j) undef) (.inr hb) hlf (fun j d hd => ?_) (fun j d hd => ?_)
              · obtain ⟨u, hu, hm⟩ := m2.get hd
                rw [Addr.add_mid, cell_of_row w b (o + j) vs.toArray ty (0, 0) h4]
                simp [List.getD, hu]
              · obtain ⟨u, hu, hm⟩ := m2.get hd
                simpa [List.getD, hu] using hm
            · rcases hc with hc | hc
              · exact n1.1 c hc
              · rw [hb] at hc; obtain rfl := Option.some.inj hc
                cases own with
                | true => exact .inr ⟨l, p, by rw [hl]; rfl, hpl, hb⟩
                | false => exact .inl (h8 rfl).1
          | _ => rw [hl1] at he; cases he
        · cases he
      | row ety sz xs own =>
        rw [hl] at he hoo
        simp only at he
        split at he
        · rename_i x hx
          simp only [Option.some.injEq, Prod.mk.injEq] at he
          obtain ⟨rfl, rfl⟩ := he
          obtain ⟨p', cells, h1, h2, h3, h4, h5, h6, h7, h8, h9, h10⟩ := hoo
          rw [hpl] at h1; obtain rfl := Option.some.inj h1
          have hlt : ∀ b, p.b = some b → b < w.heap.size := fun b hb => (h5.lt b (by rw [← h4]; exact hb)).2
          have hol : ObOk B (addI I p) μ w l (.row ety sz xs false) := ⟨p, cells, hpl, h2, h3, h4, h5, h6, h7, h8.go (addI_go (μ := μ) p), (fun hf => by cases hf), fun _ b hb => .inr hb⟩
          refine ⟨addI I p, addI_go p, hi.freeze hpl hlt (fun hf c hc => ?_) rfl hol, ?_, ⟨fun c hc => ?_, own_sub_put rfl⟩, fun _ => rfl⟩
          · rw [hl] at hf; exact h10 hf c hc
          · have key : ∀ j d, x[o + j]? = some d → ∃ u, cells[i * sz + (o + j)]? = some u ∧ Im w (addI I p) d u := by
              intro j d hd
              have hj : o + j < sz := by have := (List.getElem?_eq_some_iff.1 hd).1; rw [h6 x (List.mem_of_getElem? hx)] at this; exact this
              have hf := flat_get h6 hx hj
              rw [hd] at hf
              exact (h8.go (addI_go (μ := μ) p)).get hf
            refine .ipt (fun j => cells.getD (i * sz + (o + j)) undef) (.inr hb) (h7 x (List.mem_of_getElem? hx)) (fun j d hd => ?_) (fun j d hd => ?_)
            · obtain ⟨u, hu, hm⟩ := key j d hd
              rw [Addr.add_mid, h2]
              have := row_cell (b := b) h5 (by rw [← h4]; exact hb) hu
              rw [show i * sz + o + j = i * sz + (o + j) by omega, this]
              simp [List.getD, hu]
            · obtain ⟨u, hu, hm⟩ := key j d hd
              simpa [List.getD, hu] using hm
          · rcases hc with hc | hc
            · exact .inl hc
            · cases own with
              | true => exact .inr ⟨l, p, by rw [hl]; rfl, hpl, hc⟩
              | false => exact .inl (h10 rfl c hc)
        · cases he
      | _ => rw [hl] at he; cases he
    | agg cs =>
      simp only [frz, Option.bind_eq_some_iff, Option.some.injEq, Prod.mk.injEq] at he
      obtain ⟨q, hq, rfl, rfl⟩ := he
      have hv' : ∃ vs : List Value, v = .agg vs.toArray ∧ RpL w I μ cs vs := by
        cases hv with
        | im hm => cases hm with | agg vs hs h => exact ⟨vs, rfl, hs, fun j d v a b => .im (h j d v a b)⟩
        | agg vs hs h => exact ⟨vs, rfl, hs, h⟩
      obtain ⟨vs, rfl, hvs⟩ := hv'
      obtain ⟨I1, g1, i1, m1, n1, l1⟩ := frzL_ok (fun I h h' d d' v => frz_ok n I h h' d d' v) cs I h q.2 q.1 vs hq hi hvs
      exact ⟨I1, g1, i1, .agg vs m1.1 m1.2, n1, fun hf => by cases hf⟩
    | fn f cs =>
      simp only [frz, Option.bind_eq_some_iff, Option.some.injEq, Prod.mk.injEq] at he
      obtain ⟨q, hq, rfl, rfl⟩ := he
      have hv' : ∃ vs : List Value, v = .func (.func f) #[] vs.toArray ∧ RpL w I μ cs vs := by
        cases hv with
        | im hm => cases hm with | fn vs hs h => exact ⟨vs, rfl, hs, fun j d v a b => .im (h j d v a b)⟩
        | fn vs hs h => exact ⟨vs, rfl, hs, h⟩
      obtain ⟨vs, rfl, hvs⟩ := hv'
      obtain ⟨I1, g1, i1, m1, n1, l1⟩ := frzL_ok (fun I h h' d d' v => frz_ok n I h h' d d' v) cs I h q.2 q.1 vs hq hi hvs
      exact ⟨I1, g1, i1, .fn vs m1.1 m1.2, n1, fun _ => rfl⟩
    | tup cs => cases he
    | mpr l => cases he
    | own e sz xs => cases he
    | und | int k n | bool b | str s | nlf | nls | isl xs | ipt cs o =>
      simp only [frz, Option.some.injEq, Prod.mk.injEq] at he
      obtain ⟨rfl, rfl⟩ := he
      cases hv with
      | im hm => exact plain hm leafs
end
end Go.Proofs.Ytbpccdengeakgaa.AE
