/-
  AE, part 16: what an operation looks at, and what it changes: nothing else.
-/
import Derived.Test.YtbpccdengeakgaaAE15
set_option linter.unusedVariables false
set_option linter.unusedSimpArgs false
namespace Go.Proofs.Ytbpccdengeakgaa.AE
open Go Go.RowKit
section
variable {e e' : Env} {h h' h2 : Hp} {k n n' : Nat} {C : Calls1} {md : Nat → Bool} {d : D} {o : XOp}
theorem ev_congr {x : X} (hx : ∀ t ∈ x.tm, e t = e' t) : x.ev e = x.ev e' := by
  cases x with
  | t k => exact hx k (by simp [X.tm])
  | c d => rfl
theorem map_congr {xs : List X} (hx : ∀ x ∈ xs, x.ev e = x.ev e') : xs.map (X.ev e) = xs.map (X.ev e') := List.map_congr_left hx
theorem bnd_congr {x : Option X} {z : Nat} (hx : ∀ y ∈ x.toList, y.ev e = y.ev e') : bnd e z x = bnd e' z x := by
  cases x with
  | none => rfl
  | some y => simp only [bnd]; rw [hx y (by simp)]
theorem evP_congr (hx : ∀ x ∈ o.xs, x.ev e = x.ev e') : evP e h k o = evP e' h k o := by
  cases o <;> simp only [XOp.xs, List.mem_cons, List.not_mem_nil, or_false, forall_eq_or_imp, forall_eq, List.mem_map, List.mem_append, forall_exists_index, and_imp, forall_apply_eq_imp_iff₂] at hx <;> simp only [evP]
  case build z ps =>
    have : (ps.map fun p => (p.1, p.2.1, p.2.2.ev e)) = (ps.map fun p => (p.1, p.2.1, p.2.2.ev e')) := List.map_congr_left fun p hp => by rw [hx p hp]
    rw [this]
  case bsl t sz z n ps =>
    have : (ps.map fun p => p.2.ev e) = (ps.map fun p => p.2.ev e') := List.map_congr_left fun p hp => hx p hp
    rw [this]
  case bsf t sz z n ps =>
    have : (ps.map fun p => p.2.ev e) = (ps.map fun p => p.2.ev e') := List.map_congr_left fun p hp => hx p hp
    rw [this]
  case bdf z ps =>
    have : (ps.map fun p => (p.1, p.2.1, p.2.2.ev e)) = (ps.map fun p => (p.1, p.2.1, p.2.2.ev e')) := List.map_congr_left fun p hp => by rw [hx p hp]
    rw [this]
  case mkfn f xs => rw [map_congr hx]
  case slS x lo hi =>
    rw [hx.1, bnd_congr (x := lo) (fun y hy => hx.2 y (.inl hy))]
    have : ∀ z, bnd e z hi = bnd e' z hi := fun z => bnd_congr (fun y hy => hx.2 y (.inr hy))
    simp only [this]
  all_goals first | rfl | (simp only [hx]; done) | (rw [hx]; done) | (obtain ⟨h1, h2⟩ := hx; rw [h1, h2]; done) | (obtain ⟨h1, h2, h3⟩ := hx; rw [h1, h2, h3]; done)
theorem target_congr (hx : ∀ x ∈ o.xs, x.ev e = x.ev e') : target e o = target e' o := by
  cases o <;> simp only [XOp.xs, List.mem_cons, forall_eq_or_imp] at hx <;> simp only [target]
  · rw [map_congr hx]
  · rw [hx.1, map_congr hx.2]
theorem evOp_congr (hx : ∀ x ∈ o.xs, x.ev e = x.ev e') : evOp md C e h k n o = evOp md C e' h k n o := by
  unfold evOp
  rw [evP_congr hx, target_congr hx]
theorem isMd_congr (hx : ∀ x ∈ o.xs, x.ev e = x.ev e') : isMd md e o = isMd md e' o := by
  unfold isMd
  rw [target_congr hx]
theorem touch_congr (hx : ∀ x ∈ o.xs, x.ev e = x.ev e') : touch md e h o = touch md e' h o := by
  cases o <;> simp only [XOp.xs, List.mem_cons, List.not_mem_nil, or_false, forall_eq_or_imp, forall_eq, List.mem_map, forall_exists_index, and_imp, forall_apply_eq_imp_iff₂] at hx <;> simp only [touch]
  case bsl t sz z n ps =>
    have : (ps.map fun p => p.2.ev e) = (ps.map fun p => p.2.ev e') := List.map_congr_left fun p hp => hx p hp
    rw [this]
  case bsf t sz z n ps =>
    have : (ps.map fun p => p.2.ev e) = (ps.map fun p => p.2.ev e') := List.map_congr_left fun p hp => hx p hp
    rw [this]
  all_goals first | rfl | (rw [hx]; done) | (rw [hx.1]; done) | (rw [hx.1, hx.2]; done) | (rw [map_congr hx]; done) | (rw [hx.1, map_congr hx.2]; done)
theorem okD_congr (hx : ∀ x ∈ o.xs, x.ev e = x.ev e') : okD md C e h n o = okD md C e' h n o := by
  cases o <;> simp only [XOp.xs, List.mem_cons, List.not_mem_nil, or_false, forall_eq_or_imp, forall_eq, List.mem_map, forall_exists_index, and_imp, forall_apply_eq_imp_iff₂] at hx <;> simp only [okD]
  case bsl t sz z n ps =>
    have : (ps.map fun p => p.2.ev e) = (ps.map fun p => p.2.ev e') := List.map_congr_left fun p hp => hx p hp
    rw [this]
  case bsf t sz z n ps =>
    have : (ps.map fun p => p.2.ev e) = (ps.map fun p => p.2.ev e') := List.map_congr_left fun p hp => hx p hp
    rw [this]
  case app t sz b x y => rw [hx.1, hx.2]
  case call f xs => rw [map_congr hx]
  case callv x xs => rw [hx.1, map_congr hx.2]

/-! ### locality -/
/-- The names of its own that an operation may give. -/
def Own (k : Nat) : Nat → Bool := fun l => decide (k ≤ l) && decide (l < k + W8)
theorem own_iff {k l : Nat} : Own k l = true ↔ k ≤ l ∧ l < k + W8 := by simp [Own]
/-- h2 with what h' has at the names of wn and at those of W. -/
def pat (wn : List Nat) (W : Nat → Bool) (h' h2 : Hp) : Hp := fun l => if l ∈ wn ∨ W l = true then h' l else h2 l
def Agr (ns : List Nat) (h h2 : Hp) : Prop := ∀ l ∈ ns, h2 l = h l
def AgW (W : Nat → Bool) (h h2 : Hp) : Prop := ∀ l, W l = true → h2 l = h l
abbrev AgN (k : Nat) (h h2 : Hp) : Prop := AgW (Own k) h h2
/-- What an operation changes and looks at (no call on the caller's own blocks). -/
structure LocP (md : Nat → Bool) (C : Calls1) (e : Env) (h : Hp) (k n : Nat) (o : XOp) (d : D) (h' : Hp) (n' : Nat) : Prop where
  nn : n' = n
  far : ∀ l, l ∉ (touch md e h o).2 → ¬ Own k l = true → h' l = h l
  mv : ∀ h2 n2, Agr (touch md e h o).1 h h2 → Agr (touch md e h o).2 h h2 → AgN k h h2 → okD md C e h2 n2 o = true ∧ touch md e h2 o = touch md e h o ∧ evOp md C e h2 k n2 o = some (d, pat (touch md e h o).2 (Own k) h' h2, n2)
theorem pat_same (ha : AgN k h h2) : pat [] (Own k) h h2 = h2 := by
  funext l
  simp only [pat, List.not_mem_nil, false_or, own_iff]
  split
  · rename_i hl; exact (ha l (own_iff.2 hl)).symm
  · rfl
theorem pat_put (ha : AgN k h h2) (ob : Ob) : pat [] (Own k) (hput h k ob) h2 = hput h2 k ob := by
  funext l
  simp only [pat, List.not_mem_nil, false_or, own_iff]
  split
  · rename_i hl
    by_cases he : l = k
    · subst he; rw [hput_same, hput_same]
    · rw [hput_ne _ _ he, hput_ne _ _ he]; exact (ha l (own_iff.2 hl)).symm
  · rename_i hl
    rw [hput_ne _ _ (fun he => hl ⟨by omega, by have w8 : W8 = 8 := rfl; omega⟩)]
theorem pat_set {j : Nat} (ha : AgN k h h2) (ob : Ob) : pat [j] (Own k) (hput h j ob) h2 = hput h2 j ob := by
  funext l
  simp only [pat, List.mem_singleton, own_iff]
  by_cases he : l = j
  · subst he; rw [if_pos (.inl rfl), hput_same, hput_same]
  · rw [hput_ne h2 _ he]
    split
    · rename_i hl
      rw [hput_ne _ _ he]
      rcases hl with hl | hl
      · exact absurd hl he
      · exact (ha l (own_iff.2 hl)).symm
    · rfl
theorem pat_app {j : Nat} (ha : AgN k h h2) (ob : Ob) : pat [j] (Own k) (hput (hput h j .no) k ob) h2 = hput (hput h2 j .no) k ob := by
  funext l
  simp only [pat, List.mem_singleton, own_iff]
  by_cases hk : l = k
  · subst hk; rw [if_pos (.inr ⟨Nat.le_refl _, by have w8 : W8 = 8 := rfl; omega⟩), hput_same, hput_same]
  · rw [hput_ne _ _ hk, hput_ne _ _ hk]
    by_cases he : l = j
    · subst he; rw [if_pos (.inl rfl), hput_same, hput_same]
    · rw [hput_ne h2 _ he]
      split
      · rename_i hl
        rw [hput_ne _ _ he]
        rcases hl with hl | hl
        · exact absurd hl he
        · exact (ha l (own_iff.2 hl)).symm
      · rfl
theorem cellsAt_agr {m : Nat} (ha : Agr d.nm h h2) : cellsAt h2 m d = cellsAt h m d := by
  cases d <;> simp only [cellsAt]
  rw [ha _ (by simp [D.nm])]
theorem elems_agr (ha : Agr d.nm h h2) : elems h2 d = elems h d := by
  cases d <;> simp only [elems]
  rw [ha _ (by simp [D.nm])]
theorem putAt_agr {m : Nat} {cs : List D} (ha : Agr d.nm h h2) (hp : putAt h m cs d = some h') : ∃ j ob, d.nm = [j] ∧ h' = hput h j ob ∧ putAt h2 m cs d = some (hput h2 j ob) := by
  cases d <;> simp only [putAt] at hp <;> try (cases hp; done)
  rename_i l i o
  have hl : h2 l = h l := ha l (by simp [D.nm])
  cases hob : h l with
  | var cs' own =>
    rw [hob] at hp hl
    cases own with
    | false => cases hp
    | true =>
      simp only at hp
      split at hp
      · rename_i hc
        exact ⟨l, _, rfl, (Option.some.inj hp).symm, by simp only [putAt, hl]; rw [if_pos hc]⟩
      · cases hp
  | row ety sz xs own =>
    rw [hob] at hp hl
    cases own with
    | false => cases hp
    | true =>
      simp only at hp
      split at hp
      · rename_i x hx
        split at hp
        · rename_i hc
          exact ⟨l, _, rfl, (Option.some.inj hp).symm, by simp only [putAt, hl, hx]; rw [if_pos hc]⟩
        · cases hp
      · cases hp
  | _ => rw [hob] at hp; cases hp
theorem frz_im (hd : d.im = true) (m : Nat) : frz (m + 1) h d = some (d, h) := by
  cases d <;> simp only [D.im] at hd <;> try (cases hd; done)
  all_goals try rfl
  rename_i f caps
  have : caps = [] := by simpa using hd
  subst this
  rfl
theorem frzL_im : ∀ {ds : List D}, ds.all D.im = true → frzL (fun h d => frz 9 h d) h ds = some (ds, h)
  | [], _ => rfl
  | d :: r, hd => by
    simp only [List.all_cons, Bool.and_eq_true] at hd
    simp only [frzL, frz_im hd.1, Option.bind_some, frzL_im hd.2]
theorem frzL_imG (m : Nat) : ∀ {ds : List D}, ds.all D.im = true → frzL (frz (m + 1)) h ds = some (ds, h)
  | [], _ => rfl
  | d :: r, hd => by
    simp only [List.all_cons, Bool.and_eq_true] at hd
    simp only [frzL, frz_im hd.1, Option.bind_some, frzL_imG m hd.2]
theorem frz_imA (hd : d.imA = true) (m : Nat) : frz (m + 2) h d = some (d, h) := by
  by_cases hc : ∃ cs, d = .agg cs
  · obtain ⟨cs, rfl⟩ := hc
    have hd : cs.all D.im = true := hd
    show ((frzL (frz (m + 1)) h cs).bind fun p => some (D.agg p.1, p.2)) = _
    rw [frzL_imG m hd]
    rfl
  · by_cases hc2 : ∃ f cs, d = .fn f cs
    · obtain ⟨f, cs, rfl⟩ := hc2
      have hd : cs.all D.im = true := hd
      show ((frzL (frz (m + 1)) h cs).bind fun p => some (D.fn f p.1, p.2)) = _
      rw [frzL_imG m hd]
      rfl
    refine frz_im ?_ (m + 1)
    cases d <;> first | exact hd | exact absurd ⟨_, rfl⟩ hc | exact absurd ⟨_, _, rfl⟩ hc2
theorem frzL_imA : ∀ {ds : List D}, ds.all D.imA = true → frzL (fun h d => frz 9 h d) h ds = some (ds, h)
  | [], _ => rfl
  | d :: r, hd => by
    simp only [List.all_cons, Bool.and_eq_true] at hd
    simp only [frzL, frz_imA hd.1 7, Option.bind_some, frzL_imA hd.2]
/-! #### freezing looks at the blocks that data reaches -/
def NoNm (d : D) : Prop := ∀ m h, nmD m h d = []
theorem noNm_list {cs : List D} (hc : ∀ c ∈ cs, NoNm c) (m : Nat) (h : Hp) : cs.flatMap (nmD m h) = [] := by
  induction cs with
  | nil => rfl
  | cons c r ih => rw [List.flatMap_cons, hc c (by simp) m h, ih (fun x hx => hc x (by simp [hx]))]; rfl
/-- Blocks of h' hold what those of h hold, or frozen things. -/
def Sh (h' h : Hp) : Prop := ∀ l cs q, h' l = .var cs q → (∃ q', h l = .var cs q') ∨ ∀ c ∈ cs, NoNm c
theorem Sh.refl (h : Hp) : Sh h h := fun l cs q hl => .inl ⟨q, hl⟩
theorem Sh.trans {h1 h3 : Hp} (a : Sh h1 h) (b : Sh h h3) : Sh h1 h3 := fun l cs q hl => by
  rcases a l cs q hl with ⟨q', h1⟩ | h1
  · exact b l cs q' h1
  · exact .inr h1
theorem nmD_sh (a : Sh h' h) : ∀ (m : Nat) (c : D), ∀ l ∈ nmD m h' c, l ∈ nmD m h c
  | 0, c, l, hl => by cases hl
  | m + 1, c, l, hl => by
    have lst : ∀ (cs : List D), l ∈ cs.flatMap (nmD m h') → l ∈ cs.flatMap (nmD m h) := by
      intro cs hl
      obtain ⟨x, hx, hl⟩ := List.mem_flatMap.1 hl
      exact List.mem_flatMap.2 ⟨x, hx, nmD_sh a m x l hl⟩
    cases c <;> simp only [nmD] at hl ⊢ <;> try exact hl
    case agg cs => exact lst cs hl
    case fn f cs => exact lst cs hl
    case ptr j i o =>
      rcases List.mem_cons.1 hl with rfl | hl
      · exact List.mem_cons_self
      · refine List.mem_cons_of_mem _ ?_
        cases ho : h' j with
        | var cs q =>
          rw [ho] at hl
          simp only at hl
          rcases a j cs q ho with ⟨q', h1⟩ | h1
          · rw [h1]; exact lst cs hl
          · rw [noNm_list h1] at hl; cases hl
        | _ => rw [ho] at hl; cases hl
/-- What freezing a list does, when freezing one does it. -/
theorem frzL_sh {g : Hp → D → Option (D × Hp)} (hg : ∀ h d d2 h', g h d = some (d2, h') → NoNm d2 ∧ Sh h' h) : ∀ (cs : List D) {cs2 : List D} {h h' : Hp}, frzL g h cs = some (cs2, h') → (∀ c ∈ cs2, NoNm c) ∧ Sh h' h
  | [], cs2, h, h', hc => by
    simp only [frzL, Option.some.injEq, Prod.mk.injEq] at hc
    obtain ⟨rfl, rfl⟩ := hc
    exact ⟨fun c hc => absurd hc List.not_mem_nil, Sh.refl _⟩
  | c :: r, cs2, h, h', hc => by
    simp only [frzL, Option.bind_eq_some_iff, Option.some.injEq, Prod.mk.injEq] at hc
    obtain ⟨⟨d1, h1⟩, h3, ⟨r2, h4⟩, h5, rfl, rfl⟩ := hc
    obtain ⟨a1, a2⟩ := hg _ _ _ _ h3
    obtain ⟨b1, b2⟩ := frzL_sh hg r h5
    refine ⟨fun x hx => ?_, b2.trans a2⟩
    rcases List.mem_cons.1 hx with rfl | hx
    · exact a1
    · exact b1 x hx
theorem sh_row {l : Nat} {a b : Nat} {xs : List (List D)} {q : Bool} : Sh (hput h l (.row a b xs q)) h := fun j cs q hj => by
  by_cases he : j = l
  · subst he; rw [hput_same] at hj; cases hj
  · rw [hput_ne _ _ he] at hj; exact .inl ⟨_, hj⟩
theorem sh_var {l : Nat} {cs : List D} {q : Bool} (hc : ∀ c ∈ cs, NoNm c) : Sh (hput h l (.var cs q)) h := fun j cs' q hj => by
  by_cases he : j = l
  · subst he; rw [hput_same] at hj; cases hj; exact .inr hc
  · rw [hput_ne _ _ he] at hj; exact .inl ⟨_, hj⟩
theorem noNm_of {d : D} (hd : ∀ m h, nmD (m + 1) h d = []) : NoNm d := fun m h => by
  cases m with
  | zero => rfl
  | succ m => exact hd m h
theorem frz_sh : ∀ (n : Nat) (h : Hp) (d d2 : D) (h' : Hp), frz n h d = some (d2, h') → NoNm d2 ∧ Sh h' h
  | 0, h, d, d2, h', hc => by cases hc
  | n + 1, h, d, d2, h', hc => by
    have ih := frz_sh n
    cases d <;> simp only [frz] at hc
    case osl l =>
      cases hl : h l with
      | row a b c q =>
        rw [hl] at hc
        simp only [Option.some.injEq, Prod.mk.injEq] at hc
        obtain ⟨rfl, rfl⟩ := hc
        exact ⟨noNm_of fun _ _ => rfl, sh_row⟩
      | _ => rw [hl] at hc; cases hc
    case ptr l i o =>
      cases hl : h l with
      | var c q =>
        rw [hl] at hc
        simp only at hc
        split at hc
        · simp only [Option.bind_eq_some_iff] at hc
          obtain ⟨⟨c1, h1⟩, hcs, hc⟩ := hc
          obtain ⟨a1, a2⟩ := frzL_sh ih c hcs
          simp only at hc
          cases hl1 : h1 l with
          | var c2 q2 =>
            rw [hl1] at hc
            simp only [Option.some.injEq, Prod.mk.injEq] at hc
            obtain ⟨rfl, rfl⟩ := hc
            exact ⟨noNm_of fun _ _ => rfl, (sh_var a1).trans a2⟩
          | _ => rw [hl1] at hc; cases hc
        · cases hc
      | row a b c q =>
        rw [hl] at hc
        simp only at hc
        split at hc
        · simp only [Option.some.injEq, Prod.mk.injEq] at hc
          obtain ⟨rfl, rfl⟩ := hc
          exact ⟨noNm_of fun _ _ => rfl, sh_row⟩
        · cases hc
      | _ => rw [hl] at hc; cases hc
    case agg cs =>
      simp only [Option.bind_eq_some_iff, Option.some.injEq, Prod.mk.injEq] at hc
      obtain ⟨⟨c1, h1⟩, hcs, rfl, rfl⟩ := hc
      obtain ⟨a1, a2⟩ := frzL_sh ih cs hcs
      exact ⟨noNm_of fun m h => noNm_list a1 m h, a2⟩
    case fn f cs =>
      simp only [Option.bind_eq_some_iff, Option.some.injEq, Prod.mk.injEq] at hc
      obtain ⟨⟨c1, h1⟩, hcs, rfl, rfl⟩ := hc
      obtain ⟨a1, a2⟩ := frzL_sh ih cs hcs
      exact ⟨noNm_of fun m h => noNm_list a1 m h, a2⟩
    all_goals first
      | (cases hc; done)
      | (simp only [Option.some.injEq, Prod.mk.injEq] at hc
         obtain ⟨rfl, rfl⟩ := hc
         exact ⟨noNm_of fun _ _ => rfl, Sh.refl _⟩)
/-- On a heap that agrees there, freezing yields the same. -/
abbrev FzA (g : Hp → D → Option (D × Hp)) (nm : Hp → D → List Nat) : Prop := ∀ h h2 d d2 h', (∀ l ∈ nm h d, h2 l = h l) → g h d = some (d2, h') → ∃ h2', g h2 d = some (d2, h2') ∧ ∀ l, h2 l = h l → h2' l = h' l
theorem frzL_agr {g : Hp → D → Option (D × Hp)} {nm : Hp → D → List Nat} (hg : FzA g nm) (hs : ∀ h d d2 h', g h d = some (d2, h') → ∀ c, ∀ l ∈ nm h' c, l ∈ nm h c) : ∀ (cs : List D) {cs2 : List D} {h h2 h' : Hp}, (∀ l ∈ cs.flatMap (nm h), h2 l = h l) → frzL g h cs = some (cs2, h') → ∃ h2', frzL g h2 cs = some (cs2, h2') ∧ ∀ l, h2 l = h l → h2' l = h' l
  | [], cs2, h, h2, h', _, hc => by
    simp only [frzL, Option.some.injEq, Prod.mk.injEq] at hc
    obtain ⟨rfl, rfl⟩ := hc
    exact ⟨h2, rfl, fun l hl => hl⟩
  | c :: r, cs2, h, h2, h', ha, hc => by
    simp only [frzL, Option.bind_eq_some_iff, Option.some.injEq, Prod.mk.injEq] at hc
    obtain ⟨⟨d1, h1⟩, h3, ⟨r2, h4⟩, h5, rfl, rfl⟩ := hc
    simp only [List.flatMap_cons, List.mem_append] at ha
    obtain ⟨h21, e1, a1⟩ := hg _ _ _ _ _ (fun l hl => ha l (.inl hl)) h3
    obtain ⟨h22, e2, a2⟩ := frzL_agr hg hs r (h := h1) (h2 := h21) (fun l hl => by
      obtain ⟨x, hx, hl⟩ := List.mem_flatMap.1 hl
      exact a1 l (ha l (.inr (List.mem_flatMap.2 ⟨x, hx, hs _ _ _ _ h3 x l hl⟩)))) h5
    exact ⟨h22, by simp only [frzL, e1, Option.bind_some, e2], fun l hl => a2 l (a1 l hl)⟩
theorem agr_put {h1 h21 : Hp} {l : Nat} {o : Ob} (ha : ∀ j, h2 j = h j → h21 j = h1 j) : ∀ j, h2 j = h j → hput h21 l o j = hput h1 l o j := fun j hj => by
  by_cases he : j = l
  · subst he; rw [hput_same, hput_same]
  · rw [hput_ne _ _ he, hput_ne _ _ he]; exact ha j hj
theorem frz_agr : ∀ (n : Nat), FzA (frz n) (nmD n)
  | 0, h, h2, d, d2, h', _, hc => by cases hc
  | n + 1, h, h2, d, d2, h', ha, hc => by
    have ih := frz_agr n
    have hs : ∀ h d d2 h', frz n h d = some (d2, h') → ∀ c, ∀ l ∈ nmD n h' c, l ∈ nmD n h c := fun h d d2 h' hc c => nmD_sh (frz_sh n h d d2 h' hc).2 n c
    cases d <;> simp only [frz, nmD] at hc ha ⊢
    case osl l =>
      rw [ha l (by simp)]
      cases hl : h l with
      | row a b c q =>
        rw [hl] at hc
        simp only [Option.some.injEq, Prod.mk.injEq] at hc
        obtain ⟨rfl, rfl⟩ := hc
        exact ⟨_, rfl, agr_put fun _ hj => hj⟩
      | _ => rw [hl] at hc; cases hc
    case ptr l i o =>
      have hl2 := ha l (by simp)
      rw [hl2]
      cases hl : h l with
      | var c q =>
        rw [hl] at hc ha
        simp only at hc ha ⊢
        split at hc
        · rename_i hi
          rw [if_pos hi]
          simp only [Option.bind_eq_some_iff] at hc
          obtain ⟨⟨c1, h1⟩, hcs, hc⟩ := hc
          obtain ⟨h21, e1, a1⟩ := frzL_agr ih hs c (h2 := h2) (fun j hj => ha j (by simp only [List.mem_cons]; exact .inr hj)) hcs
          simp only [e1, Option.bind_some]
          simp only at hc
          rw [a1 l hl2]
          cases hl1 : h1 l with
          | var c2 q2 =>
            rw [hl1] at hc
            simp only [Option.some.injEq, Prod.mk.injEq] at hc
            obtain ⟨rfl, rfl⟩ := hc
            exact ⟨_, rfl, agr_put a1⟩
          | _ => rw [hl1] at hc; cases hc
        · cases hc
      | row a b c q =>
        rw [hl] at hc
        simp only at hc ⊢
        split at hc
        · rename_i y hy
          simp only [Option.some.injEq, Prod.mk.injEq] at hc
          obtain ⟨rfl, rfl⟩ := hc
          exact ⟨_, rfl, agr_put fun _ hj => hj⟩
        · cases hc
      | _ => rw [hl] at hc; cases hc
    case agg cs =>
      simp only [Option.bind_eq_some_iff, Option.some.injEq, Prod.mk.injEq] at hc
      obtain ⟨⟨c1, h1⟩, hcs, rfl, rfl⟩ := hc
      obtain ⟨h21, e1, a1⟩ := frzL_agr ih hs cs (h2 := h2) ha hcs
      exact ⟨h21, by simp only [e1, Option.bind_some], a1⟩
    case fn f cs =>
      simp only [Option.bind_eq_some_iff, Option.some.injEq, Prod.mk.injEq] at hc
      obtain ⟨⟨c1, h1⟩, hcs, rfl, rfl⟩ := hc
      obtain ⟨h21, e1, a1⟩ := frzL_agr ih hs cs (h2 := h2) ha hcs
      exact ⟨h21, by simp only [e1, Option.bind_some], a1⟩
    all_goals first
      | (cases hc; done)
      | (simp only [Option.some.injEq, Prod.mk.injEq] at hc
         obtain ⟨rfl, rfl⟩ := hc
         exact ⟨h2, rfl, fun _ hj => hj⟩)
theorem frz9_agr {A A2 : List D} (ha : Agr (nmL h A) h h2) (hc : frzL (fun h d => frz 9 h d) h A = some (A2, h')) : ∃ h2', frzL (fun h d => frz 9 h d) h2 A = some (A2, h2') ∧ ∀ l, h2 l = h l → h2' l = h' l := by
  obtain ⟨h2', e1, e2⟩ := frzL_agr (g := fun h d => frz 9 h d) (nm := nmD 9) (frz_agr 9) (fun h d d2 h' hc c => nmD_sh (frz_sh 9 h d d2 h' hc).2 9 c) A (h2 := h2) ha hc
  exact ⟨h2', e1, e2⟩
theorem frzL_far {g : Hp → D → Option (D × Hp)} {nm : Hp → D → List Nat} (hg : ∀ h d d2 h', g h d = some (d2, h') → ∀ l, l ∉ nm h d → h' l = h l) (hs : ∀ h d d2 h', g h d = some (d2, h') → ∀ c, ∀ l ∈ nm h' c, l ∈ nm h c) : ∀ (cs : List D) {cs2 : List D} {h h' : Hp}, frzL g h cs = some (cs2, h') → ∀ l, l ∉ cs.flatMap (nm h) → h' l = h l
  | [], cs2, h, h', hc, l, hl => by
    simp only [frzL, Option.some.injEq, Prod.mk.injEq] at hc
    obtain ⟨rfl, rfl⟩ := hc
    rfl
  | c :: r, cs2, h, h', hc, l, hl => by
    simp only [frzL, Option.bind_eq_some_iff, Option.some.injEq, Prod.mk.injEq] at hc
    obtain ⟨⟨d1, h1⟩, h3, ⟨r2, h4⟩, h5, rfl, rfl⟩ := hc
    simp only [List.flatMap_cons, List.mem_append, not_or] at hl
    show h4 l = h l
    rw [frzL_far hg hs r h5 l (fun h6 => hl.2 (by
      obtain ⟨x, hx, h6⟩ := List.mem_flatMap.1 h6
      exact List.mem_flatMap.2 ⟨x, hx, hs _ _ _ _ h3 x l h6⟩))]
    exact hg _ _ _ _ h3 l hl.1
theorem frz_far : ∀ (n : Nat) (h : Hp) (d d2 : D) (h' : Hp), frz n h d = some (d2, h') → ∀ l, l ∉ nmD n h d → h' l = h l
  | 0, h, d, d2, h', hc, l, hl => by cases hc
  | n + 1, h, d, d2, h', hc, l, hl => by
    have ih := frz_far n
    have hs : ∀ h d d2 h', frz n h d = some (d2, h') → ∀ c, ∀ l ∈ nmD n h' c, l ∈ nmD n h c := fun h d d2 h' hc c => nmD_sh (frz_sh n h d d2 h' hc).2 n c
    cases d <;> simp only [frz, nmD] at hc hl
    case osl j =>
      have hj : l ≠ j := fun he => hl (by rw [he]; simp)
      cases ho : h j with
      | row a b c q =>
        rw [ho] at hc
        simp only [Option.some.injEq, Prod.mk.injEq] at hc
        obtain ⟨rfl, rfl⟩ := hc
        exact hput_ne _ _ hj
      | _ => rw [ho] at hc; cases hc
    case ptr j i o =>
      have hj : l ≠ j := fun he => hl (by rw [he]; simp)
      cases ho : h j with
      | var c q =>
        rw [ho] at hc hl
        simp only at hc
        split at hc
        · simp only [Option.bind_eq_some_iff] at hc
          obtain ⟨⟨c1, h1⟩, hcs, hc⟩ := hc
          have hf := frzL_far ih hs c hcs l (fun h6 => hl (by simp only [List.mem_cons]; exact .inr h6))
          simp only at hc
          cases hl1 : h1 j with
          | var c2 q2 =>
            rw [hl1] at hc
            simp only [Option.some.injEq, Prod.mk.injEq] at hc
            obtain ⟨rfl, rfl⟩ := hc
            rw [hput_ne _ _ hj]; exact hf
          | _ => rw [hl1] at hc; cases hc
        · cases hc
      | row a b c q =>
        rw [ho] at hc
        simp only at hc
        split at hc
        · simp only [Option.some.injEq, Prod.mk.injEq] at hc
          obtain ⟨rfl, rfl⟩ := hc
          exact hput_ne _ _ hj
        · cases hc
      | _ => rw [ho] at hc; cases hc
    case agg cs =>
      simp only [Option.bind_eq_some_iff, Option.some.injEq, Prod.mk.injEq] at hc
      obtain ⟨⟨c1, h1⟩, hcs, rfl, rfl⟩ := hc
      exact frzL_far ih hs cs hcs l hl
    case fn f cs =>
      simp only [Option.bind_eq_some_iff, Option.some.injEq, Prod.mk.injEq] at hc
      obtain ⟨⟨c1, h1⟩, hcs, rfl, rfl⟩ := hc
      exact frzL_far ih hs cs hcs l hl
    all_goals first
      | (cases hc; done)
      | (simp only [Option.some.injEq, Prod.mk.injEq] at hc
         obtain ⟨rfl, rfl⟩ := hc
         rfl)
theorem frz9_far {A A2 : List D} (hc : frzL (fun h d => frz 9 h d) h A = some (A2, h')) : ∀ l, l ∉ nmL h A → h' l = h l :=
  frzL_far (g := fun h d => frz 9 h d) (nm := nmD 9) (fun h d d2 h' hc => frz_far 9 h d d2 h' hc) (fun h d d2 h' hc c => nmD_sh (frz_sh 9 h d d2 h' hc).2 9 c) A hc
theorem nmD_agr : ∀ (n : Nat) (d : D), Agr (nmD n h d) h h2 → nmD n h2 d = nmD n h d
  | 0, d, _ => rfl
  | n + 1, d, ha => by
    have lst : ∀ (cs : List D), Agr (cs.flatMap (nmD n h)) h h2 → cs.flatMap (nmD n h2) = cs.flatMap (nmD n h) := by
      intro cs
      induction cs with
      | nil => exact fun _ => rfl
      | cons c r ih =>
        intro hc
        rw [List.flatMap_cons, List.flatMap_cons, nmD_agr n c (fun l hl => hc l (by simp [List.flatMap_cons, hl])), ih (fun l hl => hc l (by rw [List.flatMap_cons]; exact List.mem_append.2 (.inr hl)))]
    cases d <;> simp only [nmD] at ha ⊢
    case agg cs => exact lst cs ha
    case fn f cs => exact lst cs ha
    case ptr l i o =>
      rw [ha l (by simp)]
      cases ho : h l with
      | var cs own =>
        simp only [ho] at ha ⊢
        rw [lst cs (fun j hj => ha j (by simp only [List.mem_cons]; exact .inr hj))]
      | _ => rfl
theorem nmF_agr (m : Nat) : ∀ (A : List D), Agr (A.flatMap (nmD m h)) h h2 → A.flatMap (nmD m h2) = A.flatMap (nmD m h)
  | [], _ => rfl
  | c :: r, ha => by
    rw [List.flatMap_cons, List.flatMap_cons, nmD_agr m c (fun l hl => ha l (by rw [List.flatMap_cons]; exact List.mem_append.2 (.inl hl))), nmF_agr m r (fun l hl => ha l (by rw [List.flatMap_cons]; exact List.mem_append.2 (.inr hl)))]
theorem nmL_agr {A : List D} (ha : Agr (nmL h A) h h2) : nmL h2 A = nmL h A := nmF_agr 9 A ha
theorem restr_agr {A : List D} (ha : Agr (nmL h A) h h2) (hn : ∀ l, n ≤ l → h2 l = h l) : restr h2 (nmL h A) n = restr h (nmL h A) n := by
  funext l
  unfold restr
  split
  · rename_i hl
    simp only [Bool.or_eq_true, List.contains_iff_mem, decide_eq_true_eq] at hl
    rcases hl with hl | hl
    · exact ha l hl
    · exact hn l hl
  · rfl
theorem takeIn_far : ∀ (r : List D) (k : Nat) (h : Hp) (l : Nat), (l < k ∨ k + r.length ≤ l) → (takeIn h k r).2 l = h l
  | [], k, h, l, _ => rfl
  | d :: r, k, h, l, hl => by
    have hl2 : l < k + 1 ∨ k + 1 + r.length ≤ l := by simp at hl; omega
    have other : (takeIn h (k + 1) r).2 l = h l := takeIn_far r (k + 1) h l hl2
    cases d <;> first | exact other | skip
    rename_i ety sz xs
    have := takeIn_far r (k + 1) (hput h k (.row ety sz xs true)) l hl2
    rw [hput_ne _ _ (by simp at hl; omega)] at this
    exact this
theorem takeIn_one : ∀ (r : List D) (k : Nat) (h h2 : Hp), (takeIn h2 k r).1 = (takeIn h k r).1
  | [], k, h, h2 => rfl
  | d :: r, k, h, h2 => by
    cases d <;> first | exact congrArg (fun q => _ :: q) (takeIn_one r (k + 1) h h2) | skip
    exact congrArg (fun q => _ :: q) (takeIn_one r (k + 1) _ _)
theorem takeIn_at : ∀ (r : List D) (k : Nat) (h h2 : Hp) (l : Nat), h2 l = h l → (takeIn h2 k r).2 l = (takeIn h k r).2 l
  | [], k, h, h2, l, hl => hl
  | d :: r, k, h, h2, l, hl => by
    cases d <;> first | exact takeIn_at r (k + 1) h h2 l hl | skip
    refine takeIn_at r (k + 1) _ _ l ?_
    by_cases he : l = k
    · subst he; rw [hput_same, hput_same]
    · rw [hput_ne _ _ he, hput_ne _ _ he]; exact hl
theorem takeIn_pat {r : List D} (hr : r.length ≤ W8) (ha : AgN k h h2) : takeIn h2 k r = ((takeIn h k r).1, pat [] (Own k) (takeIn h k r).2 h2) := by
  refine Prod.ext (takeIn_one r k h h2) ?_
  funext l
  simp only [pat, List.not_mem_nil, false_or, own_iff]
  split
  · rename_i hl; exact takeIn_at r k h h2 l (ha l (own_iff.2 hl))
  · rename_i hl; exact takeIn_far r k h2 l (by omega)
/-- Calls. -/
theorem call_loc {f : Nat} {args : List D} (ht : target e o = some (f, args)) (hcall : isCall o = true) (hmd : md f = false) (htouch : ∀ h, touch md e h o = tchC md h f args)
    (hok : ∀ h n, okD md C e h n o = okCall md C h n f args)
    (hd : okD md C e h n o = true) (hev : evOp md C e h k n o = some (d, h', n')) : LocP md C e h k n o d h' n' := by
  have hevh : ∀ h2 n, evOp md C e h2 k n o = (frzL (fun h d => frz 9 h d) h2 args).bind fun q => (callP C f q.1).bind fun r => if r.all D.scalar then some (one r, h2, n) else if r.length ≤ W8 then some (one (takeIn q.2 k r).1, (takeIn q.2 k r).2, n) else none := by
    intro h2 n
    unfold evOp
    rw [if_pos hcall, ht]
    simp only [Option.bind_some, hmd, Bool.false_eq_true, if_false]
  rw [hok] at hd
  unfold okCall at hd
  simp only [hmd, Bool.false_eq_true, if_false, Bool.and_eq_true, List.all_eq_true] at hd
  obtain ⟨hhere, hd⟩ := hd
  rw [hevh] at hev
  simp only [Option.bind_eq_some_iff] at hev
  obtain ⟨q, hq, r, hr, hev⟩ := hev
  have hq0 : frzL (fun h d => frz 9 h d) h args = some (q.1, q.2) := hq
  -- on another heap
  have okh : ∀ (h2 : Hp) (n2 : Nat), Agr (nmL h args) h h2 → okD md C e h2 n2 o = true := by
    intro h2 n2 a1
    rw [hok]
    unfold okCall
    simp only [hmd, Bool.false_eq_true, if_false, Bool.and_eq_true, List.all_eq_true]
    refine ⟨fun l hl => ?_, ?_⟩
    · rw [nmL_agr a1] at hl
      rw [a1 l hl]
      exact hhere l hl
    · cases hrd : rdr md f with
      | false => simp
      | true =>
        simp only [hrd, if_true] at hd ⊢
        obtain ⟨h21, hq2, _⟩ := frz9_agr a1 hq0
        rw [hq] at hd
        rw [hq2]
        exact hd
  have key : ∀ T2 : List Nat, (nmL h args ⊆ T2 ∨ r.all D.scalar = true) → (∀ l ∈ T2, l ∈ nmL h args) → n' = n ∧ (∀ l, l ∉ T2 → ¬ Own k l = true → h' l = h l) ∧ ∀ h2 n2, Agr (nmL h args) h h2 → AgN k h h2 → evOp md C e h2 k n2 o = some (d, pat T2 (Own k) h' h2, n2) := by
    intro T2 hT hT'
    split at hev
    · rename_i hsc
      simp only [Option.some.injEq, Prod.mk.injEq] at hev
      obtain ⟨rfl, rfl, rfl⟩ := hev
      refine ⟨rfl, fun _ _ _ => rfl, fun h2 n2 a1 a3 => ?_⟩
      obtain ⟨h21, hq2, _⟩ := frz9_agr a1 hq0
      rw [hevh, hq2]
      simp only [Option.bind_some, hr, hsc, if_true]
      have : pat T2 (Own k) h h2 = h2 := by
        funext l
        unfold pat
        split
        · rename_i hl
          rcases hl with hl | hl
          · exact (a1 l (hT' l hl)).symm
          · exact (a3 l hl).symm
        · rfl
      rw [this]
    · rename_i hsc
      have hT : nmL h args ⊆ T2 := hT.resolve_right hsc
      split at hev
      · rename_i hlen
        simp only [Option.some.injEq, Prod.mk.injEq] at hev
        obtain ⟨rfl, rfl, rfl⟩ := hev
        refine ⟨rfl, fun l h1 h2 => ?_, fun h2 n2 a1 a3 => ?_⟩
        · rw [own_iff] at h2
          rw [takeIn_far r k q.2 l (by omega)]
          exact frz9_far hq0 l (fun h3 => h1 (hT h3))
        · obtain ⟨h21, hq2, ag⟩ := frz9_agr a1 hq0
          rw [hevh, hq2]
          simp only [Option.bind_some, hr]
          rw [if_neg hsc, if_pos hlen, takeIn_one r k q.2 h21]
          have : (takeIn h21 k r).2 = pat T2 (Own k) (takeIn q.2 k r).2 h2 := by
            funext l
            unfold pat
            split
            · rename_i hl
              refine takeIn_at r k q.2 h21 l (ag l ?_)
              rcases hl with hl | hl
              · exact a1 l (hT' l hl)
              · exact a3 l hl
            · rename_i hl
              simp only [not_or, own_iff] at hl
              rw [takeIn_far r k h21 l (by omega)]
              refine frz9_far hq2 l ?_
              rw [nmL_agr a1]
              exact fun h3 => hl.1 (hT h3)
          rw [this]
      · cases hev
  cases hrd : rdr md f with
  | true =>
    have tc : ∀ h, touch md e h o = (nmL h args, []) := fun h => by rw [htouch]; unfold tchC; rw [hrd]; rfl
    have hsc : r.all D.scalar = true := by
      simp only [hrd, if_true] at hd
      rw [hq] at hd
      simpa only [Option.bind_some, hr, Option.any_some] using hd
    obtain ⟨k1, k2, k3⟩ := key [] (.inr hsc) (fun l hl => by cases hl)
    refine ⟨k1, fun l h1 h2 => k2 l List.not_mem_nil h2, fun h2 n2 a1 _ a3 => ?_⟩
    rw [tc] at a1
    rw [tc, tc]
    exact ⟨okh h2 n2 a1, by rw [nmL_agr a1], k3 h2 n2 a1 a3⟩
  | false =>
    have tc : ∀ h, touch md e h o = ([], nmL h args) := fun h => by rw [htouch]; unfold tchC; rw [hrd]; rfl
    obtain ⟨k1, k2, k3⟩ := key (nmL h args) (.inl (fun _ h => h)) (fun l hl => hl)
    refine ⟨k1, fun l h1 h2 => k2 l (by rw [tc] at h1; exact h1) h2, fun h2 n2 _ a1 a3 => ?_⟩
    rw [tc] at a1
    rw [tc, tc]
    exact ⟨okh h2 n2 a1, by rw [nmL_agr a1], k3 h2 n2 a1 a3⟩
theorem plain_loc (hnc : isCall o = false) {r : D × Hp} (htc : ∀ h2, touch md e h2 o = touch md e h o) (hokd : ∀ h2 n2, Agr (touch md e h o).1 h h2 → Agr (touch md e h o).2 h h2 → okD md C e h2 n2 o = true) (hp : evP e h k o = some r) (hfar : ∀ l, l ∉ (touch md e h o).2 → ¬ (k ≤ l ∧ l < k + W8) → r.2 l = h l)
    (hmv : ∀ h2, Agr (touch md e h o).1 h h2 → Agr (touch md e h o).2 h h2 → AgN k h h2 → evP e h2 k o = some (r.1, pat (touch md e h o).2 (Own k) r.2 h2)) (hev : evOp md C e h k n o = some (d, h', n')) : LocP md C e h k n o d h' n' := by
  unfold evOp at hev
  rw [if_neg (by rw [hnc]; simp), hp] at hev
  simp only [Option.bind_some, Option.some.injEq, Prod.mk.injEq] at hev
  obtain ⟨rfl, rfl, rfl⟩ := hev
  refine ⟨rfl, fun l h1 h2 => hfar l h1 (fun h3 => h2 (own_iff.2 h3)), fun h2 n2 a1 a2 a3 => ⟨hokd h2 n2 a1 a2, htc h2, ?_⟩⟩
  unfold evOp
  rw [if_neg (by rw [hnc]; simp), hmv h2 a1 a2 a3]
  rfl
theorem evOp_locP (hmd : isMd md e o = false) (hd : okD md C e h n o = true) (hev : evOp md C e h k n o = some (d, h', n')) : LocP md C e h k n o d h' n' := by
  -- an operation that leaves the blocks alone and does not look at them
  have pure : isCall o = false → (∀ h2, touch md e h2 o = ([], [])) → (∀ h2 n2, okD md C e h2 n2 o = true) → (∀ h2, ∀ r, evP e h k o = some r → r.2 = h ∧ evP e h2 k o = some (r.1, h2)) → LocP md C e h k n o d h' n' := by
    intro hc ht hk hp
    have : ∃ r, evP e h k o = some r := by
      unfold evOp at hev
      rw [if_neg (by rw [hc]; simp)] at hev
      simp only [Option.bind_eq_some_iff] at hev
      obtain ⟨r, hr, _⟩ := hev
      exact ⟨r, hr⟩
    obtain ⟨r, hr⟩ := this
    obtain ⟨p1, _⟩ := hp h r hr
    refine plain_loc hc (fun h2 => by rw [ht, ht]) (fun h2 n2 _ _ => hk h2 n2) hr (fun l _ _ => by rw [p1]) (fun h2 _ _ a3 => ?_) hev
    obtain ⟨_, p2⟩ := hp h2 r hr
    rw [p2, ht, p1, pat_same a3]
  have fresh : isCall o = false → (∀ h2, touch md e h2 o = ([], [])) → (∀ h2 n2, okD md C e h2 n2 o = true) → (∀ h2, ∀ r, evP e h k o = some r → ∃ ob, r.2 = hput h k ob ∧ evP e h2 k o = some (r.1, hput h2 k ob)) → LocP md C e h k n o d h' n' := by
    intro hc ht hk hp
    have : ∃ r, evP e h k o = some r := by
      unfold evOp at hev
      rw [if_neg (by rw [hc]; simp)] at hev
      simp only [Option.bind_eq_some_iff] at hev
      obtain ⟨r, hr, _⟩ := hev
      exact ⟨r, hr⟩
    obtain ⟨r, hr⟩ := this
    obtain ⟨ob, p1, _⟩ := hp h r hr
    refine plain_loc hc (fun h2 => by rw [ht, ht]) (fun h2 n2 _ _ => hk h2 n2) hr (fun l _ hl => by rw [p1, hput_ne _ _ (fun he => hl ⟨by omega, by have w8 : W8 = 8 := rfl; omega⟩)]) (fun h2 _ _ a3 => ?_) hev
    obtain ⟨ob2, p2, p3⟩ := hp h2 r hr
    rw [p3, ht, p2, pat_put a3]
  have reads : isCall o = false → (touch md e h o).2 = [] → (∀ h2, touch md e h2 o = touch md e h o) → (∀ h2 n2, okD md C e h2 n2 o = true) → (∀ h2, Agr (touch md e h o).1 h h2 → ∀ r, evP e h k o = some r → r.2 = h ∧ evP e h2 k o = some (r.1, h2)) → LocP md C e h k n o d h' n' := by
    intro hc ht hu hk hp
    have : ∃ r, evP e h k o = some r := by
      unfold evOp at hev
      rw [if_neg (by rw [hc]; simp)] at hev
      simp only [Option.bind_eq_some_iff] at hev
      obtain ⟨r, hr, _⟩ := hev
      exact ⟨r, hr⟩
    obtain ⟨r, hr⟩ := this
    obtain ⟨p1, _⟩ := hp h (fun _ _ => rfl) r hr
    refine plain_loc hc hu (fun h2 n2 _ _ => hk h2 n2) hr (fun l _ _ => by rw [p1]) (fun h2 a1 _ a3 => ?_) hev
    obtain ⟨_, p2⟩ := hp h2 a1 r hr
    rw [p2, ht, p1, pat_same a3]
  have lit : ∀ {A : List D} {F : List D → Hp → Option (D × Hp)}, isCall o = false → (∀ h, touch md e h o = ([], nmL h A)) → (∀ h n, okD md C e h n o = (nmL h A).all fun l => (h l).here) →
      (∀ ds h r, F ds h = some r → ∃ ob, r.2 = hput h k ob ∧ ∀ h2, F ds h2 = some (r.1, hput h2 k ob)) → (∀ h, evP e h k o = (frzL (fun h d => frz 9 h d) h A).bind fun q => F q.1 q.2) → LocP md C e h k n o d h' n' := by
    intro A F hc ht hk hF hp
    have : ∃ r, evP e h k o = some r := by
      unfold evOp at hev
      rw [if_neg (by rw [hc]; simp)] at hev
      simp only [Option.bind_eq_some_iff] at hev
      obtain ⟨r, hr, _⟩ := hev
      exact ⟨r, hr⟩
    obtain ⟨r, hr⟩ := this
    have hr0 := hr
    rw [hp] at hr
    simp only [Option.bind_eq_some_iff] at hr
    obtain ⟨q, hq, hFr⟩ := hr
    have hq0 : frzL (fun h d => frz 9 h d) h A = some (q.1, q.2) := hq
    obtain ⟨ob, p1, p2⟩ := hF _ _ _ hFr
    rw [hk] at hd
    have ag : ∀ h2, Agr (nmL h A) h h2 → okD md C e h2 n o = true ∧ nmL h2 A = nmL h A := by
      intro h2 a1
      have e1 := nmL_agr a1
      refine ⟨?_, e1⟩
      rw [hk, e1]
      rw [List.all_eq_true] at hd ⊢
      exact fun l hl => by rw [a1 l hl]; exact hd l hl
    unfold evOp at hev
    rw [if_neg (by rw [hc]; simp), hr0] at hev
    simp only [Option.bind_some, Option.some.injEq, Prod.mk.injEq] at hev
    obtain ⟨rfl, rfl, rfl⟩ := hev
    have far : ∀ l, l ∉ nmL h A → ¬ Own k l = true → r.2 l = h l := fun l h1 h2 => by
      have hne : l ≠ k := fun he => h2 (own_iff.2 ⟨by omega, by have w8 : W8 = 8 := rfl; omega⟩)
      rw [p1, hput_ne _ _ hne]
      exact frz9_far hq0 l h1
    refine ⟨rfl, fun l h1 h2 => far l (by rw [ht] at h1; exact h1) h2, fun h2 n2 _ a1 a3 => ?_⟩
    rw [ht] at a1
    obtain ⟨o1, e1⟩ := ag h2 a1
    rw [ht, ht, e1]
    refine ⟨by rw [hk] at o1 ⊢; exact o1, rfl, ?_⟩
    obtain ⟨h21, hq2, agr⟩ := frz9_agr a1 hq0
    unfold evOp
    rw [if_neg (by rw [hc]; simp), hp, hq2]
    simp only [Option.bind_some]
    rw [p2 h21]
    simp only [Option.bind_some]
    have : hput h21 k ob = pat (nmL h A) (Own k) r.2 h2 := by
      funext l
      unfold pat
      by_cases he : l = k
      · subst he
        rw [if_pos (.inr (own_iff.2 ⟨Nat.le_refl _, by have w8 : W8 = 8 := rfl; omega⟩)), p1, hput_same, hput_same]
      · rw [hput_ne _ _ he]
        split
        · rename_i hl
          rw [p1, hput_ne _ _ he]
          refine agr l ?_
          rcases hl with hl | hl
          · exact a1 l hl
          · exact a3 l hl
        · rename_i hl
          simp only [not_or] at hl
          exact frz9_far hq2 l (by rw [e1]; exact hl.1)
    rw [this]
  cases o with
  | mv x => exact pure rfl (fun _ => rfl) (fun _ _ => rfl) (fun h2 r hr => by simp only [evP, Option.some.injEq] at hr; subst hr; exact ⟨rfl, rfl⟩)
  | pick c a b => exact pure rfl (fun _ => rfl) (fun _ _ => rfl) (fun h2 r hr => by simp only [evP, Option.bind_eq_some_iff, Option.some.injEq] at hr; obtain ⟨t, ht, rfl⟩ := hr; exact ⟨rfl, by simp only [evP, ht, Option.bind_some]⟩)
  | build z ps => exact pure rfl (fun _ => rfl) (fun _ _ => rfl) (fun h2 r hr => by simp only [evP, Option.bind_eq_some_iff, Option.some.injEq] at hr; obtain ⟨t, ht, rfl⟩ := hr; exact ⟨rfl, by simp only [evP, ht, Option.bind_some]⟩)
  | bin bt op x y => exact pure rfl (fun _ => rfl) (fun _ _ => rfl) (fun h2 r hr => by simp only [evP, Option.bind_eq_some_iff, Option.some.injEq] at hr; obtain ⟨t, ht, rfl⟩ := hr; exact ⟨rfl, by simp only [evP, ht, Option.bind_some]⟩)
  | cvi kd x => exact pure rfl (fun _ => rfl) (fun _ _ => rfl) (fun h2 r hr => by simp only [evP, Option.bind_eq_some_iff, Option.some.injEq] at hr; obtain ⟨t, ht, rfl⟩ := hr; exact ⟨rfl, by simp only [evP, ht, Option.bind_some]⟩)
  | mm hi x y => exact pure rfl (fun _ => rfl) (fun _ _ => rfl) (fun h2 r hr => by simp only [evP, Option.bind_eq_some_iff, Option.some.injEq] at hr; obtain ⟨t, ht, rfl⟩ := hr; exact ⟨rfl, by simp only [evP, ht, Option.bind_some]⟩)
  | bad => exact pure rfl (fun _ => rfl) (fun _ _ => rfl) (fun h2 r hr => by cases hr)
  | ibs x y => exact pure rfl (fun _ => rfl) (fun _ _ => rfl) (fun h2 r hr => by simp only [evP, Option.bind_eq_some_iff, Option.some.injEq] at hr; obtain ⟨t, ht, rfl⟩ := hr; exact ⟨rfl, by simp only [evP, ht, Option.bind_some]⟩)
  | un op x => exact pure rfl (fun _ => rfl) (fun _ _ => rfl) (fun h2 r hr => by simp only [evP, Option.bind_eq_some_iff, Option.some.injEq] at hr; obtain ⟨t, ht, rfl⟩ := hr; exact ⟨rfl, by simp only [evP, ht, Option.bind_some]⟩)
  | eqs neg ks x y => exact pure rfl (fun _ => rfl) (fun _ _ => rfl) (fun h2 r hr => by
      simp only [evP] at hr ⊢
      split at hr
      · simp only [Option.bind_eq_some_iff, Option.some.injEq] at hr; obtain ⟨t, ht, rfl⟩ := hr; exact ⟨rfl, by rename_i h1 h2'; simp only [h1, h2', ht, Option.bind_some]⟩
      · cases hr)
  | ext x j => exact pure rfl (fun _ => rfl) (fun _ _ => rfl) (fun h2 r hr => by
      simp only [evP] at hr ⊢
      split at hr
      · rename_i cs hx; simp only [Option.bind_eq_some_iff, Option.some.injEq] at hr ⊢; obtain ⟨t, ht, rfl⟩ := hr; exact ⟨rfl, t, ht, rfl⟩
      · cases hr)
  | fld m ag off x => exact pure rfl (fun _ => rfl) (fun _ _ => rfl) (fun h2 r hr => by
      simp only [evP] at hr ⊢
      split at hr
      · rename_i cs hx; simp only [Option.bind_eq_some_iff, Option.some.injEq] at hr; obtain ⟨t, ht, u, hu, rfl⟩ := hr; exact ⟨rfl, by simp only [hx, ht, hu, Option.bind_some]⟩
      · cases hr)
  | fad off x => exact pure rfl (fun _ => rfl) (fun _ _ => rfl) (fun h2 r hr => by
      simp only [evP] at hr ⊢
      split at hr
      · rename_i cs oo hx; simp only [Option.some.injEq] at hr; subst hr; exact ⟨rfl, by simp only [hx]⟩
      · rename_i l i oo hx; simp only [Option.some.injEq] at hr; subst hr; exact ⟨rfl, by simp only [hx]⟩
      · cases hr)
  | iaA m sz x i => exact pure rfl (fun _ => rfl) (fun _ _ => rfl) (fun h2 r hr => by
      simp only [evP, Option.bind_eq_some_iff] at hr ⊢
      obtain ⟨j, hj, hr⟩ := hr
      split at hr
      · rename_i hb
        split at hr
        · rename_i cs oo hx; simp only [Option.some.injEq] at hr; subst hr; exact ⟨rfl, j, hj, by rw [if_pos hb]⟩
        · rename_i l i oo hx; simp only [Option.some.injEq] at hr; subst hr; exact ⟨rfl, j, hj, by rw [if_pos hb]⟩
        · cases hr
      · cases hr)
  | ixS x i => exact pure rfl (fun _ => rfl) (fun _ _ => rfl) (fun h2 r hr => by
      simp only [evP, Option.bind_eq_some_iff] at hr ⊢
      obtain ⟨j, hj, hr⟩ := hr
      split at hr
      · rename_i s hx
        split at hr
        · rename_i hb; simp only [Option.some.injEq] at hr; subst hr; exact ⟨rfl, j, hj, by simp only [hx]; rw [dif_pos hb]⟩
        · cases hr
      · cases hr)
  | mkfn f xs => exact pure rfl (fun _ => rfl) (fun _ _ => rfl) (fun h2 r hr => by simp only [evP, Option.some.injEq] at hr; subst hr; exact ⟨rfl, rfl⟩)
  | slS x lo hi => exact pure rfl (fun _ => rfl) (fun _ _ => rfl) (fun h2 r hr => by
      simp only [evP] at hr ⊢
      split at hr
      · rename_i s hx
        simp only [Option.bind_eq_some_iff] at hr
        obtain ⟨a, ha, b, hb, hr⟩ := hr
        split at hr
        · rename_i hab; simp only [Option.some.injEq] at hr; subst hr; exact ⟨rfl, by simp only [hx, ha, hb, Option.bind_some]; rw [if_pos hab]⟩
        · cases hr
      · cases hr)
  | nilc x => exact pure rfl (fun _ => rfl) (fun _ _ => rfl) (fun h2 r hr => by
      simp only [evP] at hr ⊢
      split at hr
      · rename_i cs oo hx; simp only [Option.some.injEq] at hr; subst hr; exact ⟨rfl, by simp only [hx]⟩
      · rename_i l i oo hx; simp only [Option.some.injEq] at hr; subst hr; exact ⟨rfl, by simp only [hx]⟩
      · cases hr)
  | alloc z => exact fresh rfl (fun _ => rfl) (fun _ _ => rfl) (fun h2 r hr => by simp only [evP, Option.some.injEq] at hr; subst hr; exact ⟨_, rfl, rfl⟩)
  | box m x => exact fresh rfl (fun _ => rfl) (fun _ _ => rfl) (fun h2 r hr => by
      simp only [evP, Option.bind_eq_some_iff] at hr ⊢
      obtain ⟨cs, hcs, hr⟩ := hr
      split at hr
      · rename_i hl; simp only [Option.some.injEq] at hr; subst hr; exact ⟨_, rfl, cs, hcs, by rw [if_pos hl]⟩
      · cases hr)
  | mks t sz by_ z x y => exact fresh rfl (fun _ => rfl) (fun _ _ => rfl) (fun h2 r hr => by
      simp only [evP, Option.bind_eq_some_iff] at hr ⊢
      obtain ⟨a, ha, b, hb, hr⟩ := hr
      split at hr
      · rename_i hl; simp only [Option.some.injEq] at hr; subst hr; exact ⟨_, rfl, a, ha, b, hb, by rw [if_pos hl]⟩
      · cases hr)
  | bsl t sz z m ps => exact lit (A := ps.map fun p => p.2.ev e) rfl (fun _ => rfl) (fun _ _ => rfl) (F := fun ds h => (fillR sz (List.replicate m z) ((ps.map (·.1)).zip ds)).bind fun xs => some (.osl k, hput h k (.row t sz xs true))) (fun ds h r hr => by
      simp only [Option.bind_eq_some_iff, Option.some.injEq] at hr
      obtain ⟨xs, hxs, rfl⟩ := hr
      exact ⟨_, rfl, fun h2 => by simp only [hxs, Option.bind_some]⟩) (fun _ => rfl)
  | bsf t sz z m ps => exact lit (A := ps.map fun p => p.2.ev e) rfl (fun _ => rfl) (fun _ _ => rfl) (F := fun ds h => (fillR sz (List.replicate m z) ((ps.map (·.1)).zip ds)).bind fun xs => some (.isl xs, hput h k (.row t sz xs false))) (fun ds h r hr => by
      simp only [Option.bind_eq_some_iff, Option.some.injEq] at hr
      obtain ⟨xs, hxs, rfl⟩ := hr
      exact ⟨_, rfl, fun h2 => by simp only [hxs, Option.bind_some]⟩) (fun _ => rfl)
  | bdf z ps => cases hd
  | load m ag x => exact reads rfl rfl (fun _ => rfl) (fun _ _ => rfl) (fun h2 a1 r hr => by
      simp only [evP, Option.bind_eq_some_iff, Option.some.injEq] at hr ⊢
      obtain ⟨cs, hcs, u, hu, rfl⟩ := hr
      exact ⟨rfl, cs, by rw [cellsAt_agr a1]; exact hcs, u, hu, rfl⟩)
  | iaS sz x i => exact reads rfl rfl (fun _ => rfl) (fun _ _ => rfl) (fun h2 a1 r hr => by
      simp only [evP, Option.bind_eq_some_iff] at hr ⊢
      obtain ⟨j, hj, hr⟩ := hr
      split at hr
      · rename_i hb
        split at hr
        · rename_i xs hx
          split at hr
          · rename_i y hy
            split at hr
            · rename_i hyl; simp only [Option.some.injEq] at hr; subst hr; exact ⟨rfl, j, hj, by rw [if_pos hb]; simp only [hx, hy]; rw [if_pos hyl]⟩
            · cases hr
          · cases hr
        · rename_i l hx
          have hl : h2 l = h l := a1 l (by simp [touch, hx, D.nm])
          split at hr
          · rename_i t' sz' xs own hob
            split at hr
            · rename_i hc; simp only [Option.some.injEq] at hr; subst hr; exact ⟨rfl, j, hj, by rw [if_pos hb]; simp only [hx, hl, hob]; rw [if_pos hc]⟩
            · cases hr
          · cases hr
        · cases hr
      · cases hr)
  | bts x => exact reads rfl rfl (fun _ => rfl) (fun _ _ => rfl) (fun h2 a1 r hr => by
      simp only [evP, Option.bind_eq_some_iff, Option.some.injEq] at hr ⊢
      obtain ⟨xs, hxs, ns, hn, rfl⟩ := hr
      exact ⟨rfl, xs, by rw [elems_agr a1]; exact hxs, ns, hn, rfl⟩)
  | len st x => exact reads rfl rfl (fun _ => rfl) (fun _ _ => rfl) (fun h2 a1 r hr => by
      cases st with
      | true =>
        simp only [evP, if_true] at hr ⊢
        split at hr
        · rename_i s hx; simp only [Option.some.injEq] at hr; subst hr; exact ⟨rfl, by simp only [hx]⟩
        · cases hr
      | false =>
        simp only [evP, Bool.false_eq_true, if_false, Option.bind_eq_some_iff, Option.some.injEq] at hr ⊢
        obtain ⟨xs, hxs, rfl⟩ := hr
        exact ⟨rfl, xs, by rw [elems_agr a1]; exact hxs, rfl⟩)
  | store m x y =>
    have : ∃ cs h1, (y.ev e).cells = some cs ∧ putAt h m cs (x.ev e) = some h1 := by
      unfold evOp at hev
      simp only [isCall, Bool.false_eq_true, if_false, evP, Option.bind_eq_some_iff] at hev
      obtain ⟨r, ⟨cs, hcs, h1, hh, _⟩, _⟩ := hev
      exact ⟨cs, h1, hcs, hh⟩
    obtain ⟨cs, h1, hcs, hp⟩ := this
    obtain ⟨j, ob, hj, rfl, _⟩ := putAt_agr (fun _ _ => rfl) hp
    refine plain_loc (r := (.und, hput h j ob)) rfl (fun _ => rfl) (fun _ _ _ _ => rfl) (by simp only [evP, hcs, hp, Option.bind_some]) (fun l hl _ => hput_ne _ _ (fun he => hl (by simp only [touch]; rw [hj, he]; simp))) (fun h2 _ a2 a3 => ?_) hev
    obtain ⟨j2, ob2, hj2, he2, hp2⟩ := putAt_agr a2 hp
    rw [hj] at hj2
    obtain rfl : j = j2 := by simpa using hj2
    have hob : ob2 = ob := by have := congrFun he2 j; rw [hput_same, hput_same] at this; exact this.symm
    subst hob
    simp only [evP, hcs, hp2, Option.bind_some]
    simp only [touch]
    rw [hj, pat_set a3]
  | app t sz by_ x y =>
    have hev0 := hev
    unfold evOp at hev
    simp only [isCall, Bool.false_eq_true, if_false, Option.bind_eq_some_iff] at hev
    obtain ⟨r, hr, _⟩ := hev
    have hr0 := hr
    simp only [evP, Option.bind_eq_some_iff] at hr
    obtain ⟨ys, hys, hr⟩ := hr
    split at hr
    · rename_i hx
      split at hr
      · rename_i hc
        simp only [Option.some.injEq] at hr
        subst hr
        have hnm : (touch md e h (.app t sz by_ x y)).2 = [] := by simp [touch, hx, D.nm]
        refine plain_loc rfl (fun _ => rfl) (fun _ _ _ _ => hd) hr0 (fun l _ hl => hput_ne _ _ (fun he => hl ⟨by omega, by have w8 : W8 = 8 := rfl; omega⟩)) (fun h2 a1 a2 a3 => ?_) hev0
        rw [hnm, pat_put a3]
        simp only [evP]
        rw [elems_agr a1, hys]
        simp only [Option.bind_some, hx]
        rw [if_pos hc]
      · cases hr
    · rename_i l hx
      split at hr
      · rename_i t' sz' xs hob
        split at hr
        · rename_i hc
          simp only [Option.some.injEq] at hr
          subst hr
          have hnm : (touch md e h (.app t sz by_ x y)).2 = [l] := by simp [touch, hx, D.nm]
          refine plain_loc rfl (fun _ => rfl) (fun _ _ _ _ => hd) hr0 (fun j hj hl => ?_) (fun h2 a1 a2 a3 => ?_) hev0
          · rw [hnm] at hj
            have n1 : j ≠ k := fun he => hl ⟨by omega, by have w8 : W8 = 8 := rfl; omega⟩
            have n2 : j ≠ l := fun he => hj (by rw [he]; simp)
            show hput (hput h l .no) k _ j = h j
            rw [hput_ne _ _ n1, hput_ne _ _ n2]
          · rw [hnm] at a2 ⊢
            rw [pat_app a3]
            simp only [evP]
            rw [elems_agr a1, hys]
            simp only [Option.bind_some, hx]
            rw [a2 l (by simp), hob]
            simp only
            rw [if_pos hc]
        · cases hr
      · cases hr
    · cases hr
  | call f xs => exact call_loc rfl rfl hmd (fun h => rfl) (fun h n => rfl) hd hev
  | callv x xs =>
    cases hx : x.ev e with
    | fn f caps => exact call_loc (f := f) (args := xs.map (X.ev e) ++ caps) (by simp only [target, hx]) rfl (by simpa only [isMd, target, hx] using hmd) (fun h => by simp only [touch, hx]) (fun h n => by simp only [okD, hx]) hd hev
    | _ => simp only [okD, hx] at hd; cases hd
  | mkmap => cases hd
  | mget z x i => cases hd
  | mput x i y => cases hd
/-- What any operation changes and looks at. -/
def WinM (k n : Nat) (m : Bool) : Nat → Bool := if m then (fun l => decide (n ≤ l)) else Own k
abbrev Win (md : Nat → Bool) (e : Env) (k n : Nat) (o : XOp) : Nat → Bool := WinM k n (isMd md e o)
structure Loc (md : Nat → Bool) (C : Calls1) (e : Env) (h : Hp) (k n : Nat) (o : XOp) (d : D) (h' : Hp) (n' : Nat) : Prop where
  le : n ≤ n'
  nn : isMd md e o = false → n' = n
  far : ∀ l, l ∉ (touch md e h o).2 → ¬ Win md e k n o l = true → h' l = h l
  mv : ∀ h2, Agr (touch md e h o).1 h h2 → Agr (touch md e h o).2 h h2 → AgW (Win md e k n o) h h2 → okD md C e h2 n o = true ∧ touch md e h2 o = touch md e h o ∧ evOp md C e h2 k n o = some (d, pat (touch md e h o).2 (Win md e k n o) h' h2, n')
theorem md_loc (HC : FrameOk C) {f : Nat} {args : List D} (ht : target e o = some (f, args)) (hcall : isCall o = true) (hmd : md f = true) (htouch : ∀ h, touch md e h o = tchC md h f args)
    (hok : ∀ h n, okD md C e h n o = okCall md C h n f args) (hd : okD md C e h n o = true) (hev : evOp md C e h k n o = some (d, h', n')) : Loc md C e h k n o d h' n' := by
  have his : isMd md e o = true := by unfold isMd; rw [ht]; exact hmd
  have tc : ∀ h, touch md e h o = ([], nmL h args) := fun h => by rw [htouch]; unfold tchC rdr; rw [hmd]; rfl
  have hw : Win md e k n o = fun l => decide (n ≤ l) := by unfold Win WinM; rw [his]; rfl
  have hevh : ∀ h2, evOp md C e h2 k n o = (C f args h2 n).bind fun r => some (one r.1, r.2.1, r.2.2) := by
    intro h2
    unfold evOp
    rw [if_pos hcall, ht]
    simp only [Option.bind_some, hmd, if_true]
  rw [hok] at hd
  unfold okCall at hd
  simp only [hmd, if_true, Bool.and_eq_true, List.all_eq_true] at hd
  obtain ⟨hhere, hd⟩ := hd
  obtain ⟨⟨ds, hr, nr⟩, hC⟩ := Option.isSome_iff_exists.1 hd
  obtain ⟨f1, f2⟩ := HC _ _ _ _ _ _ _ hC
  have ext : ∀ h2, restr h2 (nmL h args) n = restr h (nmL h args) n → ∃ h2', C f args h2 n = some (ds, h2', nr) ∧ Ext2 (fun l => l < n ∧ l ∉ nmL h args) h2 hr h2' := by
    intro h2 hq
    refine f2 (fun l => l < n ∧ l ∉ nmL h args) h2 (fun l hl => hl.1) ⟨fun l hl => ?_, fun l hl => ?_⟩
    · rw [← hq]
      unfold restr
      rw [if_pos]
      simp only [Bool.or_eq_true, List.contains_iff_mem, decide_eq_true_eq]
      exact Decidable.byContradiction fun hn => hl ⟨by omega, fun hm => hn (.inl hm)⟩
    · unfold restr
      rw [if_neg]
      simp only [Bool.or_eq_true, List.contains_iff_mem, decide_eq_true_eq]
      rintro (hm | hm)
      · exact hl.2 hm
      · omega
  obtain ⟨h1', c1, x1⟩ := ext h rfl
  rw [hevh, c1] at hev
  simp only [Option.bind_some, Option.some.injEq, Prod.mk.injEq] at hev
  obtain ⟨rfl, rfl, rfl⟩ := hev
  refine ⟨f1, fun hf => (by rw [his] at hf; cases hf), fun l h1 h2 => ?_, fun h2 _ a2 a3 => ?_⟩
  · rw [tc] at h1
    rw [hw] at h2
    exact x1.kp l ⟨by simpa using h2, h1⟩
  · rw [tc] at a2
    rw [hw] at a3
    have a3' : ∀ l, n ≤ l → h2 l = h l := fun l hl => a3 l (by simpa using hl)
    obtain ⟨h2', c2, x2⟩ := ext h2 (restr_agr a2 a3')
    refine ⟨?_, by rw [tc, tc, nmL_agr a2], ?_⟩
    · rw [hok]
      unfold okCall
      simp only [hmd, if_true, Bool.and_eq_true, List.all_eq_true]
      refine ⟨fun l hl => ?_, ?_⟩
      · rw [nmL_agr a2] at hl
        rw [a2 l hl]
        exact hhere l hl
      · rw [nmL_agr a2, restr_agr a2 a3', hC]; rfl
    · rw [hevh, c2, tc, hw]
      simp only [Option.bind_some]
      have : h2' = pat (nmL h args) (fun l => decide (n ≤ l)) h1' h2 := by
        funext l
        unfold pat
        split
        · rename_i hl
          have hF : ¬ (l < n ∧ l ∉ nmL h args) := by
            rintro ⟨q1, q2⟩
            rcases hl with hl | hl
            · exact q2 hl
            · have := of_decide_eq_true hl; omega
          rw [x2.ex.eq l hF, x1.ex.eq l hF]
        · rename_i hl
          simp only [decide_eq_true_eq, not_or] at hl
          exact x2.kp l ⟨by omega, hl.1⟩
      rw [this]
theorem evOp_loc (HC : FrameOk C) (hd : okD md C e h n o = true) (hev : evOp md C e h k n o = some (d, h', n')) : Loc md C e h k n o d h' n' := by
  cases hm : isMd md e o with
  | false =>
    have L := evOp_locP hm hd hev
    have hw : Win md e k n o = Own k := by unfold Win WinM; rw [hm]; rfl
    refine ⟨by rw [L.nn]; exact Nat.le_refl _, fun _ => L.nn, fun l h1 h2 => L.far l h1 (by rw [hw] at h2; exact h2), fun h2 a1 a2 a3 => ?_⟩
    rw [hw] at a3 ⊢
    rw [L.nn]
    exact L.mv h2 n a1 a2 a3
  | true =>
    cases o <;> try (simp only [isMd, target] at hm; cases hm; done)
    case call f xs => exact md_loc HC rfl rfl hm (fun _ => rfl) (fun _ _ => rfl) hd hev
    case callv x xs =>
      cases hx : x.ev e with
      | fn f caps => exact md_loc HC (f := f) (args := xs.map (X.ev e) ++ caps) (by simp only [target, hx]) rfl (by simpa only [isMd, target, hx] using hm) (fun h => by simp only [touch, hx]) (fun h n => by simp only [okD, hx]) hd hev
      | _ => simp only [okD, hx] at hd; cases hd
/-- Where the names run is all the same to what is no call on the caller's own blocks. -/
theorem evOp_nx (hm : isMd md e o = false) (hd : okD md C e h n o = true) (hev : evOp md C e h k n o = some (d, h', n')) (n2 : Nat) : okD md C e h n2 o = true ∧ evOp md C e h k n2 o = some (d, h', n2) := by
  have L := evOp_locP hm hd hev
  obtain ⟨h1, _, h3⟩ := L.mv h n2 (fun _ _ => rfl) (fun _ _ => rfl) (fun _ _ => rfl)
  refine ⟨h1, ?_⟩
  rw [h3]
  congr 2
  refine Prod.ext ?_ rfl
  funext l
  show pat _ _ h' h l = h' l
  unfold pat
  split
  · rfl
  · rename_i hl
    simp only [not_or] at hl
    exact (L.far l hl.1 hl.2).symm
end
end Go.Proofs.Ytbpccdengeakgaa.AE
