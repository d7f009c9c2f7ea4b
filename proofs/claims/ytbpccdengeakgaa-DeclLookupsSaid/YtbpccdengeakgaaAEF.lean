/-
  AE: more blocks change nothing: what a run does not have, it does not touch. No program in sight.
-/
import Derived.Test.YtbpccdengeakgaaAE1
set_option linter.unusedVariables false
set_option linter.unusedSimpArgs false
namespace Go.Proofs.Ytbpccdengeakgaa.AE
open Go
/-- h2 is h with blocks at the names of F, where h has none. -/
structure Ext (F : Nat → Prop) (h h2 : Hp) : Prop where
  eq : ∀ l, ¬ F l → h2 l = h l
  no : ∀ l, F l → h l = .no
/-- The same behind a step, and the blocks of F as they were. -/
structure Ext2 (F : Nat → Prop) (h2 : Hp) (h' h2' : Hp) : Prop where
  ex : Ext F h' h2'
  kp : ∀ l, F l → h2' l = h2 l
section
variable {F : Nat → Prop} {h h2 h' : Hp} {k : Nat}
theorem Ext.same (x : Ext F h h2) : Ext2 F h2 h h2 := ⟨x, fun _ _ => rfl⟩
theorem Ext.get (x : Ext F h h2) {l : Nat} {o : Ob} (hl : h l = o) (hn : o ≠ .no) : h2 l = o ∧ ¬ F l := by
  have hF : ¬ F l := fun hf => hn (by rw [← hl]; exact x.no l hf)
  exact ⟨by rw [x.eq l hF]; exact hl, hF⟩
theorem Ext.put (x : Ext F h h2) {l : Nat} (hl : ¬ F l) (o : Ob) : Ext2 F h2 (hput h l o) (hput h2 l o) := by
  refine ⟨⟨fun j hj => ?_, fun j hj => ?_⟩, fun j hj => ?_⟩
  · by_cases h : j = l
    · subst h; rw [hput_same, hput_same]
    · rw [hput_ne _ _ h, hput_ne _ _ h]; exact x.eq j hj
  · rw [hput_ne _ _ (fun h => hl (by rw [← h]; exact hj))]; exact x.no j hj
  · rw [hput_ne _ _ (fun h => hl (by rw [← h]; exact hj))]
theorem Ext2.trans {h2' h3 h3' : Hp} (a : Ext2 F h2 h' h2') (b : Ext2 F h2' h3 h3') : Ext2 F h2 h3 h3' := ⟨b.ex, fun l hl => (b.kp l hl).trans (a.kp l hl)⟩
theorem cellsAt_ext (x : Ext F h h2) {n : Nat} {d : D} {cs : List D} (hc : cellsAt h n d = some cs) : cellsAt h2 n d = some cs := by
  cases d <;> simp only [cellsAt] at hc ⊢ <;> try (cases hc; done)
  · exact hc
  · rename_i l i o
    cases hl : h l with
    | no => rw [hl] at hc; cases hc
    | mp es => rw [hl] at hc; cases hc
    | var c q => rw [(x.get hl (by simp)).1]; rw [hl] at hc; exact hc
    | row a b c q => rw [(x.get hl (by simp)).1]; rw [hl] at hc; exact hc
theorem elems_ext (x : Ext F h h2) {d : D} {xs : List (List D)} (hc : elems h d = some xs) : elems h2 d = some xs := by
  cases d <;> simp only [elems] at hc ⊢ <;> try (cases hc; done)
  · exact hc
  · exact hc
  · rename_i l
    cases hl : h l with
    | no => rw [hl] at hc; cases hc
    | mp es => rw [hl] at hc; cases hc
    | var c q => rw [hl] at hc; cases hc
    | row a b c q => rw [(x.get hl (by simp)).1]; rw [hl] at hc; exact hc
theorem putAt_ext (x : Ext F h h2) {n : Nat} {cs : List D} {d : D} (hc : putAt h n cs d = some h') : ∃ h2', putAt h2 n cs d = some h2' ∧ Ext2 F h2 h' h2' := by
  cases d <;> simp only [putAt] at hc ⊢ <;> try (cases hc; done)
  rename_i l i o
  cases hl : h l with
  | no => rw [hl] at hc; cases hc
  | mp es => rw [hl] at hc; cases hc
  | var c q =>
    obtain ⟨g1, g2⟩ := x.get hl (by simp)
    rw [g1]
    rw [hl] at hc
    cases q with
    | false => cases hc
    | true =>
      simp only at hc ⊢
      split at hc
      · rename_i hq
        obtain rfl := Option.some.inj hc
        rw [if_pos hq]
        exact ⟨_, rfl, x.put g2 _⟩
      · cases hc
  | row a b c q =>
    obtain ⟨g1, g2⟩ := x.get hl (by simp)
    rw [g1]
    rw [hl] at hc
    cases q with
    | false => cases hc
    | true =>
      simp only at hc ⊢
      split at hc
      · rename_i y hy
        split at hc
        · rename_i hq
          obtain rfl := Option.some.inj hc
          rw [if_pos hq]
          exact ⟨_, rfl, x.put g2 _⟩
        · cases hc
      · cases hc
theorem frzL_ext {g : Hp → D → Option (D × Hp)} (hg : ∀ (h h2 : Hp) (d d2 : D) (h' : Hp), Ext F h h2 → g h d = some (d2, h') → ∃ h2', g h2 d = some (d2, h2') ∧ Ext2 F h2 h' h2') : ∀ (ds : List D) {h h2 : Hp} {ds2 : List D} {h' : Hp}, Ext F h h2 → frzL g h ds = some (ds2, h') → ∃ h2', frzL g h2 ds = some (ds2, h2') ∧ Ext2 F h2 h' h2'
  | [], h, h2, ds2, h', x, hc => by
    simp only [frzL, Option.some.injEq, Prod.mk.injEq] at hc
    obtain ⟨rfl, rfl⟩ := hc
    exact ⟨h2, rfl, x.same⟩
  | d :: r, h, h2, ds2, h', x, hc => by
    simp only [frzL, Option.bind_eq_some_iff, Option.some.injEq, Prod.mk.injEq] at hc
    obtain ⟨⟨d1, h1⟩, hd, ⟨r1, h3⟩, hr, rfl, rfl⟩ := hc
    obtain ⟨h21, e1, x1⟩ := hg h h2 d d1 h1 x hd
    obtain ⟨h22, e2, x2⟩ := frzL_ext hg r x1.ex hr
    refine ⟨h22, ?_, x1.trans x2⟩
    simp only [frzL, e1, Option.bind_some, e2]
theorem frz_ext : ∀ (n : Nat) (h h2 : Hp) (d d2 : D) (h' : Hp), Ext F h h2 → frz n h d = some (d2, h') → ∃ h2', frz n h2 d = some (d2, h2') ∧ Ext2 F h2 h' h2'
  | 0, h, h2, d, d2, h', x, hc => by cases hc
  | n + 1, h, h2, d, d2, h', x, hc => by
    have ih := frz_ext n
    cases d <;> simp only [frz] at hc ⊢
    case osl l =>
      cases hl : h l with
      | no => rw [hl] at hc; cases hc
      | mp es => rw [hl] at hc; cases hc
      | var c q => rw [hl] at hc; cases hc
      | row a b c q =>
        obtain ⟨g1, g2⟩ := x.get hl (by simp)
        rw [hl] at hc
        simp only [Option.some.injEq, Prod.mk.injEq] at hc
        obtain ⟨rfl, rfl⟩ := hc
        rw [g1]
        exact ⟨_, rfl, x.put g2 _⟩
    case ptr l i o =>
      cases hl : h l with
      | no => rw [hl] at hc; cases hc
      | mp es => rw [hl] at hc; cases hc
      | var c q =>
        obtain ⟨g1, g2⟩ := x.get hl (by simp)
        rw [hl] at hc
        rw [g1]
        simp only at hc ⊢
        split at hc
        · rename_i hi
          simp only [Option.bind_eq_some_iff] at hc
          obtain ⟨⟨c1, h1⟩, hcs, hc⟩ := hc
          obtain ⟨h21, e1, x1⟩ := frzL_ext ih c x hcs
          rw [if_pos hi]
          simp only [e1, Option.bind_some]
          simp only at hc
          cases hl1 : h1 l with
          | no => rw [hl1] at hc; cases hc
          | mp es => rw [hl1] at hc; cases hc
          | row _ _ _ _ => rw [hl1] at hc; cases hc
          | var c2 q2 =>
            rw [hl1] at hc
            simp only [Option.some.injEq, Prod.mk.injEq] at hc
            obtain ⟨rfl, rfl⟩ := hc
            obtain ⟨g3, g4⟩ := x1.ex.get hl1 (by simp)
            rw [g3]
            exact ⟨_, rfl, x1.trans (x1.ex.put g4 _)⟩
        · cases hc
      | row a b c q =>
        obtain ⟨g1, g2⟩ := x.get hl (by simp)
        rw [hl] at hc
        rw [g1]
        simp only at hc ⊢
        split at hc
        · rename_i y hy
          simp only [Option.some.injEq, Prod.mk.injEq] at hc
          obtain ⟨rfl, rfl⟩ := hc
          exact ⟨_, rfl, x.put g2 _⟩
        · cases hc
    case agg cs =>
      simp only [Option.bind_eq_some_iff, Option.some.injEq, Prod.mk.injEq] at hc
      obtain ⟨⟨c1, h1⟩, hcs, rfl, rfl⟩ := hc
      obtain ⟨h21, e1, x1⟩ := frzL_ext ih cs x hcs
      exact ⟨h21, by simp only [e1, Option.bind_some], x1⟩
    case fn f cs =>
      simp only [Option.bind_eq_some_iff, Option.some.injEq, Prod.mk.injEq] at hc
      obtain ⟨⟨c1, h1⟩, hcs, rfl, rfl⟩ := hc
      obtain ⟨h21, e1, x1⟩ := frzL_ext ih cs x hcs
      exact ⟨h21, by simp only [e1, Option.bind_some], x1⟩
    all_goals first
      | (cases hc; done)
      | (simp only [Option.some.injEq, Prod.mk.injEq] at hc
         obtain ⟨rfl, rfl⟩ := hc
         exact ⟨h2, rfl, x.same⟩)
theorem frz9_ext {ds ds2 : List D} (x : Ext F h h2) (hc : frzL (fun h d => frz 9 h d) h ds = some (ds2, h')) : ∃ h2', frzL (fun h d => frz 9 h d) h2 ds = some (ds2, h2') ∧ Ext2 F h2 h' h2' := frzL_ext (fun h h2 d d2 h' => frz_ext 9 h h2 d d2 h') ds x hc
theorem takeIn_ext : ∀ (r : List D) (h h2 : Hp) (k : Nat), Ext F h h2 → (∀ j, j < r.length → ¬ F (k + j)) → (takeIn h2 k r).1 = (takeIn h k r).1 ∧ Ext2 F h2 (takeIn h k r).2 (takeIn h2 k r).2
  | [], h, h2, k, x, _ => ⟨rfl, x.same⟩
  | d :: r, h, h2, k, x, hn => by
    have hr : ∀ j, j < r.length → ¬ F (k + 1 + j) := fun j hj => by rw [show k + 1 + j = k + (j + 1) by omega]; exact hn (j + 1) (by simp; omega)
    cases d
    case own e sz xs =>
      have x1 := x.put (hn 0 (by simp)) (.row e sz xs true)
      obtain ⟨a, b⟩ := takeIn_ext r _ _ (k + 1) x1.ex hr
      exact ⟨by simp only [takeIn]; exact congrArg _ a, x1.trans b⟩
    all_goals
      obtain ⟨a, b⟩ := takeIn_ext r h h2 (k + 1) x hr
      exact ⟨by simp only [takeIn]; exact congrArg _ a, b⟩
theorem resOf_ext {s : St} {h2 : Hp} (x : Ext F s.h h2) : ∀ (l : List (Nat × Option (Nat × Bool))) {ds : List D}, resOf s l = some ds → resOf ⟨s.e, h2, s.k⟩ l = some ds
  | [], ds, hc => hc
  | (t, none) :: r, ds, hc => by
    simp only [resOf, Option.bind_eq_some_iff, Option.some.injEq] at hc ⊢
    obtain ⟨q, hq, rfl⟩ := hc
    exact ⟨q, resOf_ext x r hq, rfl⟩
  | (t, some (n, ag)) :: r, ds, hc => by
    simp only [resOf, Option.bind_eq_some_iff, Option.some.injEq] at hc ⊢
    obtain ⟨cs, hcs, d, hd, q, hq, rfl⟩ := hc
    exact ⟨cs, cellsAt_ext x hcs, d, hd, q, resOf_ext x r hq, rfl⟩
/-- A plain operation. -/
theorem evP_fr {e : Env} {o : XOp} {d : D} (x : Ext F h h2) (hk : ¬ F k) (hev : evP e h k o = some (d, h')) : ∃ h2', evP e h2 k o = some (d, h2') ∧ Ext2 F h2 h' h2' := by
  cases o
  case call => cases hev
  case callv => cases hev
  case bad => cases hev
  case mv x1 => simp only [evP, Option.some.injEq, Prod.mk.injEq] at hev ⊢; obtain ⟨rfl, rfl⟩ := hev; exact ⟨h2, ⟨rfl, rfl⟩, x.same⟩
  case mkfn f xs => simp only [evP, Option.some.injEq, Prod.mk.injEq] at hev ⊢; obtain ⟨rfl, rfl⟩ := hev; exact ⟨h2, ⟨rfl, rfl⟩, x.same⟩
  case pick c a b =>
    simp only [evP, Option.bind_eq_some_iff, Option.some.injEq, Prod.mk.injEq] at hev ⊢
    obtain ⟨t, ht, rfl, rfl⟩ := hev
    exact ⟨h2, ⟨t, ht, rfl, rfl⟩, x.same⟩
  case alloc z => simp only [evP, Option.some.injEq, Prod.mk.injEq] at hev ⊢; obtain ⟨rfl, rfl⟩ := hev; exact ⟨_, ⟨rfl, rfl⟩, x.put hk _⟩
  case mkmap => simp only [evP, Option.some.injEq, Prod.mk.injEq] at hev ⊢; obtain ⟨rfl, rfl⟩ := hev; exact ⟨_, ⟨rfl, rfl⟩, x.put hk _⟩
  case box n x1 =>
    simp only [evP, Option.bind_eq_some_iff] at hev ⊢
    obtain ⟨cs, hcs, hev⟩ := hev
    split at hev
    · rename_i hl
      simp only [Option.some.injEq, Prod.mk.injEq] at hev
      obtain ⟨rfl, rfl⟩ := hev
      exact ⟨_, ⟨cs, hcs, by rw [if_pos hl]⟩, x.put hk _⟩
    · cases hev
  case build z ps =>
    simp only [evP, Option.bind_eq_some_iff, Option.some.injEq, Prod.mk.injEq] at hev ⊢
    obtain ⟨cs, hcs, rfl, rfl⟩ := hev
    exact ⟨h2, ⟨cs, hcs, rfl, rfl⟩, x.same⟩
  case bdf z ps =>
    simp only [evP, Option.bind_eq_some_iff] at hev ⊢
    obtain ⟨cs, hcs, hev⟩ := hev
    obtain ⟨h2', e1, x1⟩ := frz_ext 9 h h2 _ _ _ x hev
    exact ⟨h2', ⟨cs, hcs, e1⟩, x1⟩
  case bsl t sz z n ps =>
    simp only [evP, Option.bind_eq_some_iff, Option.some.injEq, Prod.mk.injEq] at hev ⊢
    obtain ⟨q, hq, xs, hxs, rfl, rfl⟩ := hev
    obtain ⟨h21, e1, x1⟩ := frz9_ext x hq
    exact ⟨_, ⟨(q.1, h21), e1, xs, hxs, rfl, rfl⟩, x1.trans (x1.ex.put hk _)⟩
  case bsf t sz z n ps =>
    simp only [evP, Option.bind_eq_some_iff, Option.some.injEq, Prod.mk.injEq] at hev ⊢
    obtain ⟨q, hq, xs, hxs, rfl, rfl⟩ := hev
    obtain ⟨h21, e1, x1⟩ := frz9_ext x hq
    exact ⟨_, ⟨(q.1, h21), e1, xs, hxs, rfl, rfl⟩, x1.trans (x1.ex.put hk _)⟩
  case load n ag x1 =>
    simp only [evP, Option.bind_eq_some_iff, Option.some.injEq, Prod.mk.injEq] at hev ⊢
    obtain ⟨cs, hcs, d', hd, rfl, rfl⟩ := hev
    exact ⟨h2, ⟨cs, cellsAt_ext x hcs, d', hd, rfl, rfl⟩, x.same⟩
  case store n x1 y =>
    simp only [evP, Option.bind_eq_some_iff, Option.some.injEq, Prod.mk.injEq] at hev ⊢
    obtain ⟨cs, hcs, h1, hp, rfl, rfl⟩ := hev
    obtain ⟨h21, e1, x1⟩ := putAt_ext x hp
    exact ⟨h21, ⟨cs, hcs, h21, e1, rfl, rfl⟩, x1⟩
  case bin bt op x1 y => simp only [evP, Option.bind_eq_some_iff, Option.some.injEq, Prod.mk.injEq] at hev ⊢; obtain ⟨t, ht, rfl, rfl⟩ := hev; exact ⟨h2, ⟨t, ht, rfl, rfl⟩, x.same⟩
  case un op x1 => simp only [evP, Option.bind_eq_some_iff, Option.some.injEq, Prod.mk.injEq] at hev ⊢; obtain ⟨t, ht, rfl, rfl⟩ := hev; exact ⟨h2, ⟨t, ht, rfl, rfl⟩, x.same⟩
  case cvi kd x1 => simp only [evP, Option.bind_eq_some_iff, Option.some.injEq, Prod.mk.injEq] at hev ⊢; obtain ⟨t, ht, rfl, rfl⟩ := hev; exact ⟨h2, ⟨t, ht, rfl, rfl⟩, x.same⟩
  case mm hi x1 y => simp only [evP, Option.bind_eq_some_iff, Option.some.injEq, Prod.mk.injEq] at hev ⊢; obtain ⟨t, ht, rfl, rfl⟩ := hev; exact ⟨h2, ⟨t, ht, rfl, rfl⟩, x.same⟩
  case ibs x1 y => simp only [evP, Option.bind_eq_some_iff, Option.some.injEq, Prod.mk.injEq] at hev ⊢; obtain ⟨t, ht, rfl, rfl⟩ := hev; exact ⟨h2, ⟨t, ht, rfl, rfl⟩, x.same⟩
  case bts x1 =>
    simp only [evP, Option.bind_eq_some_iff, Option.some.injEq, Prod.mk.injEq] at hev ⊢
    obtain ⟨xs, hxs, ns, hn, rfl, rfl⟩ := hev
    exact ⟨h2, ⟨xs, elems_ext x hxs, ns, hn, rfl, rfl⟩, x.same⟩
  case eqs neg ks x1 y =>
    simp only [evP] at hev ⊢
    split at hev
    · rename_i h1 h3
      simp only [Option.bind_eq_some_iff, Option.some.injEq, Prod.mk.injEq] at hev ⊢
      obtain ⟨t, ht, rfl, rfl⟩ := hev
      exact ⟨h2, ⟨t, ht, rfl, rfl⟩, x.same⟩
    · cases hev
  case ext x1 m =>
    simp only [evP] at hev ⊢
    split at hev
    · simp only [Option.bind_eq_some_iff, Option.some.injEq, Prod.mk.injEq] at hev ⊢
      obtain ⟨t, ht, rfl, rfl⟩ := hev
      exact ⟨h2, ⟨t, ht, rfl, rfl⟩, x.same⟩
    · cases hev
  case fld n ag off x1 =>
    simp only [evP] at hev ⊢
    split at hev
    · simp only [Option.bind_eq_some_iff, Option.some.injEq, Prod.mk.injEq] at hev ⊢
      obtain ⟨cs, hcs, t, ht, rfl, rfl⟩ := hev
      exact ⟨h2, ⟨cs, hcs, t, ht, rfl, rfl⟩, x.same⟩
    · cases hev
  case fad off x1 =>
    simp only [evP] at hev ⊢
    split at hev
    · simp only [Option.some.injEq, Prod.mk.injEq] at hev ⊢
      obtain ⟨rfl, rfl⟩ := hev
      exact ⟨h2, ⟨rfl, rfl⟩, x.same⟩
    · simp only [Option.some.injEq, Prod.mk.injEq] at hev ⊢
      obtain ⟨rfl, rfl⟩ := hev
      exact ⟨h2, ⟨rfl, rfl⟩, x.same⟩
    · cases hev
  case nilc x1 =>
    simp only [evP] at hev ⊢
    split at hev
    · simp only [Option.some.injEq, Prod.mk.injEq] at hev ⊢
      obtain ⟨rfl, rfl⟩ := hev
      exact ⟨h2, ⟨rfl, rfl⟩, x.same⟩
    · simp only [Option.some.injEq, Prod.mk.injEq] at hev ⊢
      obtain ⟨rfl, rfl⟩ := hev
      exact ⟨h2, ⟨rfl, rfl⟩, x.same⟩
    · cases hev
  case iaA n sz x1 i =>
    simp only [evP, Option.bind_eq_some_iff] at hev ⊢
    obtain ⟨j, hj, hev⟩ := hev
    split at hev
    · rename_i hb
      split at hev
      · rename_i h1
        simp only [Option.some.injEq, Prod.mk.injEq] at hev
        obtain ⟨rfl, rfl⟩ := hev
        exact ⟨h2, ⟨j, hj, by rw [if_pos hb]⟩, x.same⟩
      · rename_i h1
        simp only [Option.some.injEq, Prod.mk.injEq] at hev
        obtain ⟨rfl, rfl⟩ := hev
        exact ⟨h2, ⟨j, hj, by rw [if_pos hb]⟩, x.same⟩
      · cases hev
    · cases hev
  case ixS x1 i =>
    simp only [evP, Option.bind_eq_some_iff] at hev ⊢
    obtain ⟨j, hj, hev⟩ := hev
    split at hev
    · rename_i s hs
      split at hev
      · rename_i h0
        simp only [Option.some.injEq, Prod.mk.injEq] at hev
        obtain ⟨rfl, rfl⟩ := hev
        exact ⟨h2, ⟨j, hj, dif_pos h0⟩, x.same⟩
      · cases hev
    · cases hev
  case iaS sz x1 i =>
    simp only [evP, Option.bind_eq_some_iff] at hev ⊢
    obtain ⟨j, hj, hev⟩ := hev
    split at hev
    · rename_i hb
      split at hev
      · rename_i xs hx
        split at hev
        · rename_i y hy
          split at hev
          · rename_i hyl
            simp only [Option.some.injEq, Prod.mk.injEq] at hev
            obtain ⟨rfl, rfl⟩ := hev
            exact ⟨h2, ⟨j, hj, by rw [if_pos hb]; simp only [hx, hy]; rw [if_pos hyl]⟩, x.same⟩
          · cases hev
        · cases hev
      · rename_i l hx
        split at hev
        · rename_i t' sz' xs own hob
          obtain ⟨g1, g2⟩ := x.get hob (by simp)
          split at hev
          · rename_i hc
            simp only [Option.some.injEq, Prod.mk.injEq] at hev
            obtain ⟨rfl, rfl⟩ := hev
            exact ⟨h2, ⟨j, hj, by rw [if_pos hb]; simp only [hx, g1]; rw [if_pos hc]⟩, x.same⟩
          · cases hev
        · cases hev
      · cases hev
    · cases hev
  case len st x1 =>
    cases st with
    | true =>
      simp only [evP, if_true] at hev ⊢
      split at hev
      · rename_i s hx
        simp only [Option.some.injEq, Prod.mk.injEq] at hev ⊢
        obtain ⟨rfl, rfl⟩ := hev
        exact ⟨h2, ⟨rfl, rfl⟩, x.same⟩
      · cases hev
    | false =>
      simp only [evP, Bool.false_eq_true, if_false, Option.bind_eq_some_iff, Option.some.injEq, Prod.mk.injEq] at hev ⊢
      obtain ⟨xs, hxs, rfl, rfl⟩ := hev
      exact ⟨h2, ⟨xs, elems_ext x hxs, rfl, rfl⟩, x.same⟩
  case app t sz by_ x1 y =>
    simp only [evP, Option.bind_eq_some_iff] at hev ⊢
    obtain ⟨ys, hys, hev⟩ := hev
    have hys2 := elems_ext x hys
    split at hev
    · rename_i hx
      split at hev
      · rename_i hb
        simp only [Option.some.injEq, Prod.mk.injEq] at hev
        obtain ⟨rfl, rfl⟩ := hev
        exact ⟨_, ⟨ys, hys2, by rw [if_pos hb]⟩, x.put hk _⟩
      · cases hev
    · rename_i l hx
      split at hev
      · rename_i t' sz' xs hrow
        obtain ⟨g1, g2⟩ := x.get hrow (by simp)
        split at hev
        · rename_i hb
          simp only [Option.some.injEq, Prod.mk.injEq] at hev
          obtain ⟨rfl, rfl⟩ := hev
          have p1 := x.put g2 .no
          exact ⟨_, ⟨ys, hys2, by simp only [hx, g1]; rw [if_pos hb]⟩, p1.trans (p1.ex.put hk _)⟩
        · cases hev
      · cases hev
    · cases hev
  case slS x1 lo hi =>
    simp only [evP] at hev ⊢
    split at hev
    · simp only [Option.bind_eq_some_iff] at hev ⊢
      obtain ⟨a, ha, b, hb, hev⟩ := hev
      split at hev
      · rename_i hc
        simp only [Option.some.injEq, Prod.mk.injEq] at hev
        obtain ⟨rfl, rfl⟩ := hev
        exact ⟨h2, ⟨a, ha, b, hb, by rw [if_pos hc]⟩, x.same⟩
      · cases hev
    · cases hev
  case mks t sz by_ z x1 y =>
    simp only [evP, Option.bind_eq_some_iff] at hev ⊢
    obtain ⟨n, hn, m, hm, hev⟩ := hev
    split at hev
    · rename_i hc
      simp only [Option.some.injEq, Prod.mk.injEq] at hev
      obtain ⟨rfl, rfl⟩ := hev
      exact ⟨_, ⟨n, hn, m, hm, by rw [if_pos hc]⟩, x.put hk _⟩
    · cases hev
  case mget z x1 i =>
    simp only [evP] at hev ⊢
    split at hev
    · rename_i l s hx hi
      split at hev
      · rename_i es hm
        obtain ⟨g1, g2⟩ := x.get hm (by simp)
        simp only [Option.some.injEq, Prod.mk.injEq] at hev
        obtain ⟨rfl, rfl⟩ := hev
        rw [g1]
        exact ⟨h2, rfl, x.same⟩
      · cases hev
    · cases hev
  case mput x1 i y =>
    simp only [evP] at hev ⊢
    split at hev
    · rename_i l s hx hi
      split at hev
      · rename_i es hm
        obtain ⟨g1, g2⟩ := x.get hm (by simp)
        split at hev
        · rename_i hc
          simp only [Option.some.injEq, Prod.mk.injEq] at hev
          obtain ⟨rfl, rfl⟩ := hev
          rw [g1]
          simp only
          rw [if_pos hc]
          exact ⟨_, rfl, x.put g2 _⟩
        · cases hev
      · cases hev
    · cases hev
/-- What a call does is indifferent to blocks that it does not have. -/
def FrameOk (C : Calls1) : Prop := ∀ f A h k ds h' k', C f A h k = some (ds, h', k') → k ≤ k' ∧ ∀ (F : Nat → Prop) (h2 : Hp), (∀ l, F l → l < k) → Ext F h h2 → ∃ h2', C f A h2 k = some (ds, h2', k') ∧ Ext2 F h2 h' h2'
theorem nmD_ext (x : Ext F h h2) : ∀ (n : Nat) (d : D), (∀ l ∈ nmD n h d, (h l).here = true) → nmD n h2 d = nmD n h d ∧ ∀ l ∈ nmD n h d, ¬ F l
  | 0, d, _ => ⟨rfl, fun l hl => by cases hl⟩
  | n + 1, d, hh => by
    have lst : ∀ (cs : List D), (∀ l ∈ cs.flatMap (nmD n h), (h l).here = true) → cs.flatMap (nmD n h2) = cs.flatMap (nmD n h) ∧ ∀ l ∈ cs.flatMap (nmD n h), ¬ F l := by
      intro cs
      induction cs with
      | nil => exact fun _ => ⟨rfl, fun l hl => by cases hl⟩
      | cons c r ih =>
        intro hc
        simp only [List.flatMap_cons, List.mem_append] at hc ⊢
        obtain ⟨a1, a2⟩ := nmD_ext x n c (fun l hl => hc l (.inl hl))
        obtain ⟨b1, b2⟩ := ih (fun l hl => hc l (.inr hl))
        refine ⟨by rw [a1, b1], fun l hl => ?_⟩
        rcases hl with hl | hl
        · exact a2 l hl
        · exact b2 l hl
    have here : ∀ l, (h l).here = true → ¬ F l := fun l hl hf => by rw [x.no l hf] at hl; cases hl
    cases d <;> simp only [nmD] at hh ⊢ <;> try (exact ⟨trivial, fun l hl => absurd hl List.not_mem_nil⟩)
    case agg cs => exact lst cs hh
    case fn f cs => exact lst cs hh
    case osl l => exact ⟨trivial, fun j hj => here j (hh j hj)⟩
    case mpr l => exact ⟨trivial, fun j hj => here j (hh j hj)⟩
    case ptr l i o =>
      have hl := here l (hh l (by simp))
      rw [x.eq l hl]
      cases ho : h l with
      | var cs own =>
        simp only [ho] at hh ⊢
        obtain ⟨b1, b2⟩ := lst cs (fun j hj => hh j (by simp [hj]))
        refine ⟨by rw [b1], fun j hj => ?_⟩
        rcases List.mem_cons.1 hj with rfl | hj
        · exact hl
        · exact b2 j hj
      | _ =>
        refine ⟨rfl, fun j hj => ?_⟩
        simp only [ho, List.mem_singleton] at hj
        subst hj; exact hl
theorem nmF_ext (x : Ext F h h2) (n : Nat) : ∀ (A : List D), (∀ l ∈ A.flatMap (nmD n h), (h l).here = true) → A.flatMap (nmD n h2) = A.flatMap (nmD n h) ∧ ∀ l ∈ A.flatMap (nmD n h), ¬ F l
  | [], _ => ⟨rfl, fun l hl => by cases hl⟩
  | c :: r, hh => by
    simp only [List.flatMap_cons, List.mem_append] at hh ⊢
    obtain ⟨a1, a2⟩ := nmD_ext x n c (fun l hl => hh l (.inl hl))
    obtain ⟨b1, b2⟩ := nmF_ext x n r (fun l hl => hh l (.inr hl))
    refine ⟨by rw [a1, b1], fun l hl => ?_⟩
    rcases hl with hl | hl
    · exact a2 l hl
    · exact b2 l hl
theorem nmL_ext (x : Ext F h h2) (A : List D) (hh : ∀ l ∈ nmL h A, (h l).here = true) : nmL h2 A = nmL h A ∧ ∀ l ∈ nmL h A, ¬ F l := nmF_ext x 9 A hh
variable {md : Nat → Bool} {C : Calls1} {e : Env} {n n' : Nat} {d : D} {o : XOp}
theorem restr_ext (x : Ext F h h2) (hF : ∀ l, F l → l < n) {T : List Nat} (hT : ∀ l ∈ T, ¬ F l) : restr h2 T n = restr h T n := by
  funext l
  unfold restr
  split
  · rename_i hl
    simp only [Bool.or_eq_true, List.contains_iff_mem, decide_eq_true_eq] at hl
    rcases hl with hl | hl
    · exact x.eq l (hT l hl)
    · exact x.eq l (fun hf => by have := hF l hf; omega)
  · rfl
theorem okCall_ext {f : Nat} {A : List D} (x : Ext F h h2) (hF : ∀ l, F l → l < n) (hok : okCall md C h n f A = true) : okCall md C h2 n f A = true ∧ tchC md h2 f A = tchC md h f A := by
  unfold okCall at hok ⊢
  simp only [Bool.and_eq_true, List.all_eq_true] at hok ⊢
  obtain ⟨h1, h3⟩ := hok
  obtain ⟨e1, e2⟩ := nmL_ext x A h1
  refine ⟨⟨fun l hl => ?_, ?_⟩, by unfold tchC; rw [e1]⟩
  · rw [e1] at hl; rw [x.eq l (e2 l hl)]; exact h1 l hl
  · cases hm : md f with
    | true =>
      simp only [hm, if_true] at h3 ⊢
      rw [e1, restr_ext x hF e2]; exact h3
    | false =>
      simp only [hm, Bool.false_eq_true, if_false] at h3 ⊢
      cases hr : rdr md f with
      | false => simp
      | true =>
        simp only [hr, if_true] at h3 ⊢
        cases hq : frzL (fun h d => frz 9 h d) h A with
        | none => rw [hq] at h3; cases h3
        | some q =>
          obtain ⟨h21, e3, _⟩ := frz9_ext x (show frzL (fun h d => frz 9 h d) h A = some (q.1, q.2) from hq)
          rw [hq] at h3
          rw [e3]
          exact h3
theorem okD_ext (x : Ext F h h2) (hF : ∀ l, F l → l < n) (hok : okD md C e h n o = true) : okD md C e h2 n o = true ∧ touch md e h2 o = touch md e h o := by
  cases o
  case call f xs => exact okCall_ext x hF hok
  case callv y xs =>
    simp only [okD, touch] at hok ⊢
    split at hok
    · rename_i f caps hy
      exact okCall_ext x hF hok
    · cases hok
  case bsl t sz z m ps =>
    simp only [okD, touch, List.all_eq_true] at hok ⊢
    obtain ⟨e1, e2⟩ := nmL_ext x _ hok
    exact ⟨fun l hl => by rw [e1] at hl; rw [x.eq l (e2 l hl)]; exact hok l hl, by rw [e1]⟩
  case bsf t sz z m ps =>
    simp only [okD, touch, List.all_eq_true] at hok ⊢
    obtain ⟨e1, e2⟩ := nmL_ext x _ hok
    exact ⟨fun l hl => by rw [e1] at hl; rw [x.eq l (e2 l hl)]; exact hok l hl, by rw [e1]⟩
  all_goals exact ⟨hok, rfl⟩
theorem evOp_ext (HC : FrameOk C) (x : Ext F h h2) (hF : ∀ l, F l → l < k) (hkn : k + W8 ≤ n) (hev : evOp md C e h k n o = some (d, h', n')) : n ≤ n' ∧ ∃ h2', evOp md C e h2 k n o = some (d, h2', n') ∧ Ext2 F h2 h' h2' := by
  have w8 : W8 = 8 := rfl
  unfold evOp at hev ⊢
  split at hev
  · rename_i hc
    rw [if_pos hc]
    simp only [Option.bind_eq_some_iff] at hev ⊢
    obtain ⟨t, ht, hev⟩ := hev
    split at hev
    · rename_i hm
      simp only [Option.bind_eq_some_iff, Option.some.injEq, Prod.mk.injEq] at hev
      obtain ⟨⟨ds, h1, n1⟩, hr, rfl, rfl, rfl⟩ := hev
      obtain ⟨g1, g2⟩ := HC _ _ _ _ _ _ _ hr
      obtain ⟨h2', e1, x1⟩ := g2 F h2 (fun l hl => by have := hF l hl; omega) x
      exact ⟨g1, h2', ⟨t, ht, by rw [if_pos hm]; simp only [e1, Option.bind_some]⟩, x1⟩
    · rename_i hm
      simp only [Option.bind_eq_some_iff] at hev
      obtain ⟨⟨A, hq⟩, hfz, rs, hrs, hev⟩ := hev
      obtain ⟨h21, e1, x1⟩ := frz9_ext x hfz
      split at hev
      · rename_i hsc
        simp only [Option.some.injEq, Prod.mk.injEq] at hev
        obtain ⟨rfl, rfl, rfl⟩ := hev
        refine ⟨Nat.le_refl _, h2, ⟨t, ht, ?_⟩, x.same⟩
        rw [if_neg hm]
        simp only [e1, Option.bind_some, hrs, hsc, if_true]
      · rename_i hsc
        split at hev
        · rename_i hlen
          simp only [Option.some.injEq, Prod.mk.injEq] at hev
          obtain ⟨rfl, rfl, rfl⟩ := hev
          obtain ⟨a1, a2⟩ := takeIn_ext rs hq h21 k x1.ex (fun j hj hf => by have := hF _ hf; omega)
          refine ⟨Nat.le_refl _, _, ⟨t, ht, ?_⟩, x1.trans a2⟩
          rw [if_neg hm]
          simp only [e1, Option.bind_some, hrs]
          rw [if_neg hsc, if_pos hlen, a1]
        · cases hev
  · rename_i hc
    rw [if_neg hc]
    simp only [Option.bind_eq_some_iff, Option.some.injEq, Prod.mk.injEq] at hev ⊢
    obtain ⟨⟨d1, h1⟩, hr, rfl, rfl, rfl⟩ := hev
    obtain ⟨h2', e1, x1⟩ := evP_fr x (fun hf => by have := hF _ hf; omega) hr
    exact ⟨Nat.le_refl _, h2', ⟨(d1, h2'), e1, rfl, rfl, rfl⟩, x1⟩
theorem evOps_ext (HC : FrameOk C) : ∀ (l : List XO) (k : Nat) (s s' : St) (h2 : Hp), Ext F s.h h2 → (∀ l, F l → l < k) → k + W8 * l.length ≤ s.k → evOps md C k l s = some s' → s.k ≤ s'.k ∧ ∃ h2', evOps md C k l ⟨s.e, h2, s.k⟩ = some ⟨s'.e, h2', s'.k⟩ ∧ Ext2 F h2 s'.h h2'
  | [], k, s, s', h2, x, hF, hk, hev => by
    simp only [evOps, Option.some.injEq] at hev
    subst hev
    exact ⟨Nat.le_refl _, h2, rfl, x.same⟩
  | o :: r, k, s, s', h2, x, hF, hk, hev => by
    have w8 : W8 = 8 := rfl
    have hlen : W8 * (r.length + 1) = W8 + W8 * r.length := by rw [Nat.mul_succ]; omega
    rw [List.length_cons, hlen] at hk
    simp only [evOps, Option.bind_eq_some_iff] at hev ⊢
    obtain ⟨b, hb, hev⟩ := hev
    cases b with
    | true =>
      simp only [if_true, Option.bind_eq_some_iff] at hev
      obtain ⟨⟨d, h1, n1⟩, hop, hev⟩ := hev
      obtain ⟨g1, h21, e1, x1⟩ := evOp_ext HC x hF (by omega) hop
      obtain ⟨g2, h22, e2, x2⟩ := evOps_ext HC r (k + W8) _ s' h21 x1.ex (fun l hl => by have := hF l hl; omega) (by simp only; omega) hev
      simp only at g2 e2
      exact ⟨by omega, h22, ⟨true, hb, by simp only [if_true, e1, Option.bind_some]; exact e2⟩, x1.trans x2⟩
    | false =>
      simp only [Bool.false_eq_true, if_false] at hev
      obtain ⟨g2, h22, e2, x2⟩ := evOps_ext HC r (k + W8) ⟨eputO s.e o.dst .und, s.h, s.k⟩ s' h2 x (fun l hl => by have := hF l hl; omega) (by simp only; omega) hev
      exact ⟨g2, h22, ⟨false, hb, by simp only [Bool.false_eq_true, if_false]; exact e2⟩, x2⟩
theorem evOpsD_ext (HC : FrameOk C) : ∀ (l : List XO) (k : Nat) (fr : Bool) (s : St) (z : List (List Nat × List Nat) × St) (h2 : Hp), Ext F s.h h2 → (∀ l, F l → l < k) → k + W8 * l.length ≤ s.k → evOpsD md C k fr l s = some z → s.k ≤ z.2.k ∧ ∃ h2', evOpsD md C k fr l ⟨s.e, h2, s.k⟩ = some (z.1, ⟨z.2.e, h2', z.2.k⟩) ∧ Ext2 F h2 z.2.h h2'
  | [], k, fr, s, z, h2, x, hF, hk, hev => by
    simp only [evOpsD, Option.some.injEq] at hev
    subst hev
    exact ⟨Nat.le_refl _, h2, rfl, x.same⟩
  | o :: r, k, fr, s, z, h2, x, hF, hk, hev => by
    have w8 : W8 = 8 := rfl
    have hlen : W8 * (r.length + 1) = W8 + W8 * r.length := by rw [Nat.mul_succ]; omega
    rw [List.length_cons, hlen] at hk
    simp only [evOpsD, Option.bind_eq_some_iff] at hev ⊢
    obtain ⟨b, hb, hev⟩ := hev
    cases b with
    | true =>
      simp only [if_true] at hev
      split at hev
      · rename_i hok
        have hok0 := hok
        simp only [Bool.and_eq_true] at hok
        simp only [Option.bind_eq_some_iff, Option.some.injEq] at hev
        obtain ⟨⟨d, h1, n1⟩, hop, z1, hz1, rfl⟩ := hev
        obtain ⟨g1, h21, e1, x1⟩ := evOp_ext HC x hF (by omega) hop
        obtain ⟨ok2, tc2⟩ := okD_ext x (fun l hl => by have := hF l hl; omega) hok.1
        obtain ⟨g2, h22, e2, x2⟩ := evOpsD_ext HC r (k + W8) _ _ z1 h21 x1.ex (fun l hl => by have := hF l hl; omega) (by simp only; omega) hz1
        simp only at g2 e2
        refine ⟨by show s.k ≤ z1.2.k; omega, h22, ⟨true, hb, ?_⟩, x1.trans x2⟩
        simp only [if_true, ok2, hok.2, Bool.and_self, e1, Option.bind_some, e2, tc2]
      · cases hev
    | false =>
      simp only [Bool.false_eq_true, if_false, Option.bind_eq_some_iff, Option.some.injEq] at hev
      obtain ⟨z1, hz1, rfl⟩ := hev
      obtain ⟨g2, h22, e2, x2⟩ := evOpsD_ext HC r (k + W8) fr ⟨eputO s.e o.dst .und, s.h, s.k⟩ z1 h2 x (fun l hl => by have := hF l hl; omega) (by simp only; omega) hz1
      refine ⟨g2, h22, ⟨false, hb, ?_⟩, x2⟩
      simp only [Bool.false_eq_true, if_false]
      simp only at e2
      rw [e2]
      rfl
theorem iter_ext {f : St → Option (Ex × St)} (hf : ∀ (s : St) (r : Ex × St) (h2 : Hp), Ext F s.h h2 → (∀ l, F l → l < s.k) → f s = some r → s.k ≤ r.2.k ∧ ∃ h2', f ⟨s.e, h2, s.k⟩ = some (r.1, ⟨r.2.e, h2', r.2.k⟩) ∧ Ext2 F h2 r.2.h h2') :
    ∀ (n : Nat) (s : St) (r : Ex × St) (h2 : Hp), Ext F s.h h2 → (∀ l, F l → l < s.k) → iter f n s = some r → s.k ≤ r.2.k ∧ ∃ h2', iter f n ⟨s.e, h2, s.k⟩ = some (r.1, ⟨r.2.e, h2', r.2.k⟩) ∧ Ext2 F h2 r.2.h h2'
  | 0, s, r, h2, x, hF, hev => by cases hev
  | n + 1, s, r, h2, x, hF, hev => by
    simp only [iter, Option.bind_eq_some_iff] at hev
    obtain ⟨⟨ex, s1⟩, h1, hev⟩ := hev
    obtain ⟨g1, h21, e1, x1⟩ := hf s _ h2 x hF h1
    simp only at g1 e1 x1
    simp only [iter, e1, Option.bind_some]
    cases ex with
    | nrm =>
      simp only at hev ⊢
      obtain ⟨g2, h22, e2, x2⟩ := iter_ext hf n s1 r h21 x1.ex (fun l hl => by have := hF l hl; omega) hev
      exact ⟨by omega, h22, e2, x1.trans x2⟩
    | exit i =>
      simp only [Option.some.injEq] at hev ⊢
      subst hev
      exact ⟨g1, h21, rfl, x1⟩
    | ret =>
      simp only [Option.some.injEq] at hev ⊢
      subst hev
      exact ⟨g1, h21, rfl, x1⟩
theorem evC_ext (HC : FrameOk C) (n : Nat) : ∀ (c : XC) (s : St) (r : Ex × St) (h2 : Hp), Ext F s.h h2 → (∀ l, F l → l < s.k) → evC md C n c s = some r → s.k ≤ r.2.k ∧ ∃ h2', evC md C n c ⟨s.e, h2, s.k⟩ = some (r.1, ⟨r.2.e, h2', r.2.k⟩) ∧ Ext2 F h2 r.2.h h2'
  | .skip, s, r, h2, x, hF, hev => by simp only [evC, Option.some.injEq] at hev; subst hev; exact ⟨Nat.le_refl _, h2, rfl, x.same⟩
  | .exit id, s, r, h2, x, hF, hev => by simp only [evC, Option.some.injEq] at hev; subst hev; exact ⟨Nat.le_refl _, h2, rfl, x.same⟩
  | .ret, s, r, h2, x, hF, hev => by simp only [evC, Option.some.injEq] at hev; subst hev; exact ⟨Nat.le_refl _, h2, rfl, x.same⟩
  | .reg draw prs ops, s, r, h2, x, hF, hev => by
    cases draw with
    | true =>
      simp only [evC, if_true, Option.bind_eq_some_iff] at hev
      obtain ⟨z, hz, hev⟩ := hev
      split at hev
      · rename_i hp
        simp only [Option.some.injEq] at hev
        subst hev
        obtain ⟨g, h21, e1, x1⟩ := evOpsD_ext HC ops s.k true ⟨s.e, s.h, s.k + W8 * ops.length⟩ z h2 x hF (Nat.le_refl _) hz
        simp only at g e1
        refine ⟨by simp only; omega, h21, ?_, x1⟩
        simp only [evC, if_true, e1, Option.bind_some]
        rw [if_pos hp]
      · cases hev
    | false =>
      simp only [evC, Bool.false_eq_true, if_false, Option.bind_eq_some_iff, Option.some.injEq] at hev
      obtain ⟨s', hs', rfl⟩ := hev
      obtain ⟨g, h21, e1, x1⟩ := evOps_ext HC ops s.k ⟨s.e, s.h, s.k + W8 * ops.length⟩ s' h2 x hF (Nat.le_refl _) hs'
      simp only at g e1
      refine ⟨by simp only; omega, h21, ?_, x1⟩
      simp only [evC, Bool.false_eq_true, if_false, e1, Option.bind_some]
  | .seq a b, s, r, h2, x, hF, hev => by
    simp only [evC, Option.bind_eq_some_iff] at hev
    obtain ⟨⟨ex, s1⟩, h1, hev⟩ := hev
    obtain ⟨g1, h21, e1, x1⟩ := evC_ext HC n a s _ h2 x hF h1
    simp only at g1 e1 x1
    simp only [evC, e1, Option.bind_some]
    cases ex with
    | nrm =>
      simp only at hev ⊢
      obtain ⟨g2, h22, e2, x2⟩ := evC_ext HC n b s1 r h21 x1.ex (fun l hl => by have := hF l hl; omega) hev
      exact ⟨by omega, h22, e2, x1.trans x2⟩
    | exit i => simp only [Option.some.injEq] at hev ⊢; subst hev; exact ⟨g1, h21, rfl, x1⟩
    | ret => simp only [Option.some.injEq] at hev ⊢; subst hev; exact ⟨g1, h21, rfl, x1⟩
  | .cond y a b, s, r, h2, x, hF, hev => by
    simp only [evC, Option.bind_eq_some_iff] at hev
    obtain ⟨t, ht, hev⟩ := hev
    simp only [evC, ht, Option.bind_some]
    cases t with
    | true =>
      simp only [if_true] at hev ⊢
      exact evC_ext HC n a s r h2 x hF hev
    | false =>
      simp only [Bool.false_eq_true, if_false] at hev ⊢
      exact evC_ext HC n b s r h2 x hF hev
  | .blk id a, s, r, h2, x, hF, hev => by
    simp only [evC, Option.bind_eq_some_iff] at hev
    obtain ⟨⟨ex, s1⟩, h1, hev⟩ := hev
    obtain ⟨g1, h21, e1, x1⟩ := evC_ext HC n a s _ h2 x hF h1
    simp only at g1 e1 x1
    simp only [evC, e1, Option.bind_some]
    cases ex with
    | nrm => simp only [Option.some.injEq] at hev ⊢; subst hev; exact ⟨g1, h21, rfl, x1⟩
    | ret => simp only [Option.some.injEq] at hev ⊢; subst hev; exact ⟨g1, h21, rfl, x1⟩
    | exit i =>
      simp only at hev ⊢
      split at hev
      · rename_i hi
        simp only [Option.some.injEq] at hev
        subst hev
        exact ⟨g1, h21, by rw [if_pos hi], x1⟩
      · rename_i hi
        simp only [Option.some.injEq] at hev
        subst hev
        exact ⟨g1, h21, by rw [if_neg hi], x1⟩
  | .loop a, s, r, h2, x, hF, hev => by
    simp only [evC] at hev ⊢
    exact iter_ext (fun s r h2 x hF hev => evC_ext HC n a s r h2 x hF hev) n s r h2 x hF hev
end
theorem runF_frame (xp : Nat → Option XF) (md : Nat → Bool) : ∀ n, FrameOk (runF xp md n)
  | 0 => fun f A h k ds h' k' hev => by cases hev
  | n + 1 => by
    have key : ∀ (F : Nat → Prop) (f : Nat) (A : List D) (h : Hp) (k : Nat) (ds : List D) (h' : Hp) (k' : Nat) (h2 : Hp), runF xp md (n + 1) f A h k = some (ds, h', k') → (∀ l, F l → l < k) → Ext F h h2 → k ≤ k' ∧ ∃ h2', runF xp md (n + 1) f A h2 k = some (ds, h2', k') ∧ Ext2 F h2 h' h2' := by
      intro F f A h k ds h' k' h2 hev hF x
      simp only [runF, Option.bind_eq_some_iff] at hev
      obtain ⟨G, hG, hev⟩ := hev
      simp only [runF, hG, Option.bind_some]
      split at hev
      · cases hev
      · rename_i hl
        rw [if_neg hl]
        simp only [Option.bind_eq_some_iff] at hev
        obtain ⟨⟨ex, s⟩, h1, hev⟩ := hev
        obtain ⟨g1, h21, e1, x1⟩ := evC_ext (runF_frame xp md n) n G.body ⟨envOf A, h, k⟩ _ h2 x hF h1
        simp only at g1 e1 x1
        simp only [e1, Option.bind_some]
        cases ex with
        | exit i => cases hev
        | nrm =>
          simp only [Option.bind_eq_some_iff, Option.some.injEq, Prod.mk.injEq] at hev ⊢
          obtain ⟨d1, hd, rfl, rfl, rfl⟩ := hev
          exact ⟨g1, h21, ⟨d1, resOf_ext x1.ex G.res hd, rfl, rfl, rfl⟩, x1⟩
        | ret =>
          simp only [Option.bind_eq_some_iff, Option.some.injEq, Prod.mk.injEq] at hev ⊢
          obtain ⟨d1, hd, rfl, rfl, rfl⟩ := hev
          exact ⟨g1, h21, ⟨d1, resOf_ext x1.ex G.res hd, rfl, rfl, rfl⟩, x1⟩
    intro f A h k ds h' k' hev
    refine ⟨(key (fun _ => False) f A h k ds h' k' h hev (fun l hl => hl.elim) ⟨fun _ _ => rfl, fun _ hl => hl.elim⟩).1, fun F h2 hF x => (key F f A h k ds h' k' h2 hev hF x).2⟩
end Go.Proofs.Ytbpccdengeakgaa.AE
