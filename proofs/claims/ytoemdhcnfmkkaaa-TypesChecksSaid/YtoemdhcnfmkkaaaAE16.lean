/-
  AE, part 16: what an operation looks at, and what it changes: nothing else.
-/
import Derived.Test.YtoemdhcnfmkkaaaAE15
set_option linter.unusedVariables false
set_option linter.unusedSimpArgs false
namespace Go.Proofs.Ytoemdhcnfmkkaaa.AE
open Go Go.RowKit
section
variable {e e' : Env} {h h' h2 : Hp} {k n n' : Nat} {C : Calls1} {md : Nat → Bool} {d : D} {o : XOp}
theorem ev_congr {x : X} (hx : ∀ t ∈ x.tm, e t = e' t) : x.ev e = x.ev e' := by
  cases x with
  | t k => exact hx k (by simp [X.tm])
  | c d => rfl
theorem map_congr {xs : List X} (hx : ∀ x ∈ xs, x.ev e = x.ev e') : xs.map (X.ev e) = xs.map (X.ev e') := List.map_congr_left hx
theorem bnd_congr {x : Option X} {z : Nat} (hx : ∀ y ∈ x.toList, y.ev e = y.ev e') : bnd e z x = bnd e' z x := by
  cases x with
  | none => rfl
  | some y => simp only [bnd]; rw [hx y (by simp)]
theorem evP_congr (hx : ∀ x ∈ o.xs, x.ev e = x.ev e') : evP e h k o = evP e' h k o := by
  cases o <;> simp only [XOp.xs, List.mem_cons, List.not_mem_nil, or_false, forall_eq_or_imp, forall_eq, List.mem_map, List.mem_append, forall_exists_index, and_imp, forall_apply_eq_imp_iff₂] at hx <;> simp only [evP]
  case build z ps =>
    have : (ps.map fun p => (p.1, p.2.1, p.2.2.ev e)) = (ps.map fun p => (p.1, p.2.1, p.2.2.ev e')) := List.map_congr_left fun p hp => by rw [hx p hp]
    rw [this]
  case bsl t sz z n ps =>
    have : (ps.map fun p => p.2.ev e) = (ps.map fun p => p.2.ev e') := List.map_congr_left fun p hp => hx p hp
    rw [this]
  case mkfn f xs => rw [map_congr hx]
  case slS x lo hi =>
    rw [hx.1, bnd_congr (x := lo) (fun y hy => hx.2 y (.inl hy))]
    have : ∀ z, bnd e z hi = bnd e' z hi := fun z => bnd_congr (fun y hy => hx.2 y (.inr hy))
    simp only [this]
  all_goals first | rfl | (simp only [hx]; done) | (rw [hx]; done) | (obtain ⟨h1, h2⟩ := hx; rw [h1, h2]; done) | (obtain ⟨h1, h2, h3⟩ := hx; rw [h1, h2, h3]; done)
theorem target_congr (hx : ∀ x ∈ o.xs, x.ev e = x.ev e') : target e o = target e' o := by
  cases o <;> simp only [XOp.xs, List.mem_cons, forall_eq_or_imp] at hx <;> simp only [target]
  · rw [map_congr hx]
  · rw [hx.1, map_congr hx.2]
theorem evOp_congr (hx : ∀ x ∈ o.xs, x.ev e = x.ev e') : evOp md C e h k n o = evOp md C e' h k n o := by
  unfold evOp
  rw [evP_congr hx, target_congr hx]
theorem touch_congr (hx : ∀ x ∈ o.xs, x.ev e = x.ev e') : touch e o = touch e' o := by
  cases o <;> simp only [XOp.xs, List.mem_cons, List.not_mem_nil, or_false, forall_eq_or_imp, forall_eq] at hx <;> simp only [touch]
  all_goals first | rfl | (rw [hx]; done) | (rw [hx.1]; done) | (rw [hx.1, hx.2]; done) | (rw [map_congr hx]; done) | (rw [hx.1, map_congr hx.2]; done)
theorem okD_congr (hx : ∀ x ∈ o.xs, x.ev e = x.ev e') : okD md C e h o = okD md C e' h o := by
  cases o <;> simp only [XOp.xs, List.mem_cons, List.not_mem_nil, or_false, forall_eq_or_imp, forall_eq, List.mem_map, forall_exists_index, and_imp, forall_apply_eq_imp_iff₂] at hx <;> simp only [okD]
  case bsl t sz z n ps =>
    have : (ps.map fun p => p.2.ev e) = (ps.map fun p => p.2.ev e') := List.map_congr_left fun p hp => hx p hp
    rw [this]
  case app t sz b x y => rw [hx.1, hx.2]
  case call f xs => rw [map_congr hx]
  case callv x xs => rw [hx.1, map_congr hx.2]

/-! ### locality -/
/-- h2 with what h' has at the names of wn and at k .. k + 8. -/
def pat (wn : List Nat) (k : Nat) (h' h2 : Hp) : Hp := fun l => if l ∈ wn ∨ (k ≤ l ∧ l < k + W8) then h' l else h2 l
def Agr (ns : List Nat) (h h2 : Hp) : Prop := ∀ l ∈ ns, h2 l = h l
def AgN (k : Nat) (h h2 : Hp) : Prop := ∀ l, k ≤ l → l < k + W8 → h2 l = h l
/-- What an operation changes and looks at. -/
structure Loc (md : Nat → Bool) (C : Calls1) (e : Env) (h : Hp) (k n : Nat) (o : XOp) (d : D) (h' : Hp) (n' : Nat) : Prop where
  nn : n' = n
  far : ∀ l, l ∉ (touch e o).2 → ¬ (k ≤ l ∧ l < k + W8) → h' l = h l
  mv : ∀ h2, Agr (touch e o).1 h h2 → Agr (touch e o).2 h h2 → AgN k h h2 → okD md C e h2 o = true ∧ evOp md C e h2 k n o = some (d, pat (touch e o).2 k h' h2, n)
theorem pat_same (ha : AgN k h h2) : pat [] k h h2 = h2 := by
  funext l
  simp only [pat, List.not_mem_nil, false_or]
  split
  · rename_i hl; exact (ha l hl.1 hl.2).symm
  · rfl
theorem pat_put (ha : AgN k h h2) (ob : Ob) : pat [] k (hput h k ob) h2 = hput h2 k ob := by
  funext l
  simp only [pat, List.not_mem_nil, false_or]
  split
  · rename_i hl
    by_cases he : l = k
    · subst he; rw [hput_same, hput_same]
    · rw [hput_ne _ _ he, hput_ne _ _ he]; exact (ha l hl.1 hl.2).symm
  · rename_i hl
    rw [hput_ne _ _ (fun he => hl ⟨by omega, by have w8 : W8 = 8 := rfl; omega⟩)]
theorem pat_set {j : Nat} (ha : AgN k h h2) (ob : Ob) : pat [j] k (hput h j ob) h2 = hput h2 j ob := by
  funext l
  simp only [pat, List.mem_singleton]
  by_cases he : l = j
  · subst he; rw [if_pos (.inl rfl), hput_same, hput_same]
  · rw [hput_ne h2 _ he]
    split
    · rename_i hl
      rw [hput_ne _ _ he]
      rcases hl with hl | hl
      · exact absurd hl he
      · exact (ha l hl.1 hl.2).symm
    · rfl
theorem pat_app {j : Nat} (ha : AgN k h h2) (ob : Ob) : pat [j] k (hput (hput h j .no) k ob) h2 = hput (hput h2 j .no) k ob := by
  funext l
  simp only [pat, List.mem_singleton]
  by_cases hk : l = k
  · subst hk; rw [if_pos (.inr ⟨Nat.le_refl _, by have w8 : W8 = 8 := rfl; omega⟩), hput_same, hput_same]
  · rw [hput_ne _ _ hk, hput_ne _ _ hk]
    by_cases he : l = j
    · subst he; rw [if_pos (.inl rfl), hput_same, hput_same]
    · rw [hput_ne h2 _ he]
      split
      · rename_i hl
        rw [hput_ne _ _ he]
        rcases hl with hl | hl
        · exact absurd hl he
        · exact (ha l hl.1 hl.2).symm
      · rfl
theorem cellsAt_agr {m : Nat} (ha : Agr d.nm h h2) : cellsAt h2 m d = cellsAt h m d := by
  cases d <;> simp only [cellsAt]
  rw [ha _ (by simp [D.nm])]
theorem elems_agr (ha : Agr d.nm h h2) : elems h2 d = elems h d := by
  cases d <;> simp only [elems]
  rw [ha _ (by simp [D.nm])]
theorem putAt_agr {m : Nat} {cs : List D} (ha : Agr d.nm h h2) (hp : putAt h m cs d = some h') : ∃ j ob, d.nm = [j] ∧ h' = hput h j ob ∧ putAt h2 m cs d = some (hput h2 j ob) := by
  cases d <;> simp only [putAt] at hp <;> try (cases hp; done)
  rename_i l i o
  have hl : h2 l = h l := ha l (by simp [D.nm])
  cases hob : h l with
  | var cs' own =>
    rw [hob] at hp hl
    cases own with
    | false => cases hp
    | true =>
      simp only at hp
      split at hp
      · rename_i hc
        exact ⟨l, _, rfl, (Option.some.inj hp).symm, by simp only [putAt, hl]; rw [if_pos hc]⟩
      · cases hp
  | row ety sz xs own =>
    rw [hob] at hp hl
    cases own with
    | false => cases hp
    | true =>
      simp only at hp
      split at hp
      · rename_i x hx
        split at hp
        · rename_i hc
          exact ⟨l, _, rfl, (Option.some.inj hp).symm, by simp only [putAt, hl, hx]; rw [if_pos hc]⟩
        · cases hp
      · cases hp
  | _ => rw [hob] at hp; cases hp
theorem frz_im (hd : d.im = true) (m : Nat) : frz (m + 1) h d = some (d, h) := by
  cases d <;> simp only [D.im] at hd <;> try (cases hd; done)
  all_goals try rfl
  rename_i f caps
  have : caps = [] := by simpa using hd
  subst this
  rfl
theorem frzL_im : ∀ {ds : List D}, ds.all D.im = true → frzL (fun h d => frz 9 h d) h ds = some (ds, h)
  | [], _ => rfl
  | d :: r, hd => by
    simp only [List.all_cons, Bool.and_eq_true] at hd
    simp only [frzL, frz_im hd.1, Option.bind_some, frzL_im hd.2]
theorem frzL_imG (m : Nat) : ∀ {ds : List D}, ds.all D.im = true → frzL (frz (m + 1)) h ds = some (ds, h)
  | [], _ => rfl
  | d :: r, hd => by
    simp only [List.all_cons, Bool.and_eq_true] at hd
    simp only [frzL, frz_im hd.1, Option.bind_some, frzL_imG m hd.2]
theorem frz_imA (hd : d.imA = true) (m : Nat) : frz (m + 2) h d = some (d, h) := by
  by_cases hc : ∃ cs, d = .agg cs
  · obtain ⟨cs, rfl⟩ := hc
    have hd : cs.all D.im = true := hd
    show ((frzL (frz (m + 1)) h cs).bind fun p => some (D.agg p.1, p.2)) = _
    rw [frzL_imG m hd]
    rfl
  · refine frz_im ?_ (m + 1)
    cases d <;> first | exact hd | exact absurd ⟨_, rfl⟩ hc
theorem frzL_imA : ∀ {ds : List D}, ds.all D.imA = true → frzL (fun h d => frz 9 h d) h ds = some (ds, h)
  | [], _ => rfl
  | d :: r, hd => by
    simp only [List.all_cons, Bool.and_eq_true] at hd
    simp only [frzL, frz_imA hd.1 7, Option.bind_some, frzL_imA hd.2]
theorem frzL_osl : ∀ {ds ds' : List D} {h h2 h1 : Hp}, ds.all isOslIm = true → (∀ d ∈ ds, Agr d.nm h h2) → frzL (fun h d => frz 9 h d) h ds = some (ds', h1) → ∃ h21, frzL (fun h d => frz 9 h d) h2 ds = some (ds', h21)
  | [], ds', h, h2, h1, _, _, hf => by
    simp only [frzL, Option.some.injEq, Prod.mk.injEq] at hf
    obtain ⟨rfl, rfl⟩ := hf
    exact ⟨h2, rfl⟩
  | d :: r, ds', h, h2, h1, hd, ha, hf => by
    simp only [List.all_cons, Bool.and_eq_true] at hd
    simp only [frzL, Option.bind_eq_some_iff, Option.some.injEq, Prod.mk.injEq] at hf
    obtain ⟨p, hp, q, hq, rfl, rfl⟩ := hf
    have step : ∃ p2, frz 9 h2 d = some (p.1, p2) ∧ ∀ c ∈ r, Agr c.nm p.2 p2 := by
      by_cases him : d.im = true
      · rw [frz_im him] at hp
        obtain rfl := Option.some.inj hp
        exact ⟨h2, frz_im him 8, fun c hc => ha c (by simp [hc])⟩
      · cases d <;> simp only [isOslIm] at hd <;> try (exact absurd hd.1 him)
        rename_i l
        have hl : h2 l = h l := ha (.osl l) (by simp) l (by simp [D.nm])
        simp only [frz] at hp ⊢
        cases hob : h l with
        | row ety sz xs own =>
          rw [hob] at hp hl
          simp only [Option.some.injEq] at hp
          subst hp
          rw [hl]
          refine ⟨_, rfl, fun c hc j hj => ?_⟩
          have := ha c (by simp [hc]) j hj
          by_cases he : j = l
          · subst he; simp only [hput_same]
          · simp only [hput_ne _ _ he]; exact this
        | _ => rw [hob] at hp; cases hp
    obtain ⟨p2, hp2, ha2⟩ := step
    obtain ⟨h21, h3⟩ := frzL_osl hd.2 ha2 hq
    exact ⟨h21, by simp only [frzL, hp2, Option.bind_some, h3]⟩
theorem takeIn_far : ∀ (r : List D) (k : Nat) (h : Hp) (l : Nat), (l < k ∨ k + r.length ≤ l) → (takeIn h k r).2 l = h l
  | [], k, h, l, _ => rfl
  | d :: r, k, h, l, hl => by
    have hl2 : l < k + 1 ∨ k + 1 + r.length ≤ l := by simp at hl; omega
    have other : (takeIn h (k + 1) r).2 l = h l := takeIn_far r (k + 1) h l hl2
    cases d <;> first | exact other | skip
    rename_i ety sz xs
    have := takeIn_far r (k + 1) (hput h k (.row ety sz xs true)) l hl2
    rw [hput_ne _ _ (by simp at hl; omega)] at this
    exact this
theorem takeIn_one : ∀ (r : List D) (k : Nat) (h h2 : Hp), (takeIn h2 k r).1 = (takeIn h k r).1
  | [], k, h, h2 => rfl
  | d :: r, k, h, h2 => by
    cases d <;> first | exact congrArg (fun q => _ :: q) (takeIn_one r (k + 1) h h2) | skip
    exact congrArg (fun q => _ :: q) (takeIn_one r (k + 1) _ _)
theorem takeIn_at : ∀ (r : List D) (k : Nat) (h h2 : Hp) (l : Nat), h2 l = h l → (takeIn h2 k r).2 l = (takeIn h k r).2 l
  | [], k, h, h2, l, hl => hl
  | d :: r, k, h, h2, l, hl => by
    cases d <;> first | exact takeIn_at r (k + 1) h h2 l hl | skip
    refine takeIn_at r (k + 1) _ _ l ?_
    by_cases he : l = k
    · subst he; rw [hput_same, hput_same]
    · rw [hput_ne _ _ he, hput_ne _ _ he]; exact hl
theorem takeIn_pat {r : List D} (hr : r.length ≤ W8) (ha : AgN k h h2) : takeIn h2 k r = ((takeIn h k r).1, pat [] k (takeIn h k r).2 h2) := by
  refine Prod.ext (takeIn_one r k h h2) ?_
  funext l
  simp only [pat, List.not_mem_nil, false_or]
  split
  · rename_i hl; exact takeIn_at r k h h2 l (ha l hl.1 hl.2)
  · rename_i hl; exact takeIn_far r k h2 l (by omega)
/-- Calls. -/
theorem call_loc {f : Nat} {args : List D} (ht : target e o = some (f, args)) (hcall : isCall o = true) (htouch : touch e o = (args.flatMap D.nm, []))
    (hok : ∀ h, okD md C e h o = (!md f && ((args.all D.im) || ((args.all isOslIm) && (((frzL (fun h d => frz 9 h d) h args).bind fun q => callP C f q.1).any fun r => r.all D.scalar)))))
    (hd : okD md C e h o = true) (hev : evOp md C e h k n o = some (d, h', n')) : Loc md C e h k n o d h' n' := by
  have hd0 := hd
  rw [hok] at hd
  simp only [Bool.and_eq_true, Bool.not_eq_true', Bool.or_eq_true] at hd
  obtain ⟨hmd, hd⟩ := hd
  have hevh : ∀ h2, evOp md C e h2 k n o = (frzL (fun h d => frz 9 h d) h2 args).bind fun q => (callP C f q.1).bind fun r => if r.all D.scalar then some (one r, h2, n) else if r.length ≤ W8 then some (one (takeIn q.2 k r).1, (takeIn q.2 k r).2, n) else none := by
    intro h2
    unfold evOp
    rw [if_pos hcall, ht]
    simp only [Option.bind_some, hmd, Bool.false_eq_true, if_false]
  rw [hevh] at hev
  simp only [Option.bind_eq_some_iff] at hev
  obtain ⟨q, hq, r, hr, hev⟩ := hev
  rcases hd with him | hosl
  · rw [frzL_im him] at hq
    obtain rfl := Option.some.inj hq
    split at hev
    · rename_i hsc
      simp only [Option.some.injEq, Prod.mk.injEq] at hev
      obtain ⟨rfl, rfl, rfl⟩ := hev
      refine ⟨rfl, fun _ _ _ => rfl, fun h2 _ _ a3 => ⟨?_, ?_⟩⟩
      · rw [hok, hmd, him]; rfl
      · rw [hevh, frzL_im him, htouch, pat_same a3]
        simp only [Option.bind_some, hr, hsc, if_true]
    · rename_i hsc
      split at hev
      · rename_i hlen
        simp only [Option.some.injEq, Prod.mk.injEq] at hev
        obtain ⟨rfl, rfl, rfl⟩ := hev
        refine ⟨rfl, fun l _ hl => takeIn_far r k h l (by omega), fun h2 _ _ a3 => ⟨?_, ?_⟩⟩
        · rw [hok, hmd, him]; rfl
        · rw [hevh, frzL_im him, htouch]
          simp only [Option.bind_some, hr]
          rw [if_neg hsc, if_pos hlen, takeIn_pat hlen a3]
      · cases hev
  · obtain ⟨hosl, hsc⟩ := hosl
    rw [hq] at hsc
    simp only [Option.bind_some, hr, Option.any_some] at hsc
    rw [if_pos hsc] at hev
    simp only [Option.some.injEq, Prod.mk.injEq] at hev
    obtain ⟨rfl, rfl, rfl⟩ := hev
    refine ⟨rfl, fun _ _ _ => rfl, fun h2 a1 _ a3 => ?_⟩
    rw [htouch] at a1
    obtain ⟨h21, hq2⟩ := frzL_osl hosl (fun d hd l hl => a1 l (List.mem_flatMap.2 ⟨d, hd, hl⟩)) hq
    constructor
    · rw [hok, hmd, hosl, hq2]
      simp only [Option.bind_some, hr, Option.any_some, hsc, Bool.not_false, Bool.true_and, Bool.or_true]
    · rw [hevh, hq2, htouch, pat_same a3]
      simp only [Option.bind_some, hr, hsc, if_true]
theorem plain_loc (hnc : isCall o = false) {r : D × Hp} (hokd : ∀ h2, Agr (touch e o).1 h h2 → Agr (touch e o).2 h h2 → okD md C e h2 o = true) (hp : evP e h k o = some r) (hfar : ∀ l, l ∉ (touch e o).2 → ¬ (k ≤ l ∧ l < k + W8) → r.2 l = h l)
    (hmv : ∀ h2, Agr (touch e o).1 h h2 → Agr (touch e o).2 h h2 → AgN k h h2 → evP e h2 k o = some (r.1, pat (touch e o).2 k r.2 h2)) (hev : evOp md C e h k n o = some (d, h', n')) : Loc md C e h k n o d h' n' := by
  unfold evOp at hev
  rw [if_neg (by rw [hnc]; simp), hp] at hev
  simp only [Option.bind_some, Option.some.injEq, Prod.mk.injEq] at hev
  obtain ⟨rfl, rfl, rfl⟩ := hev
  refine ⟨rfl, hfar, fun h2 a1 a2 a3 => ⟨hokd h2 a1 a2, ?_⟩⟩
  unfold evOp
  rw [if_neg (by rw [hnc]; simp), hmv h2 a1 a2 a3]
  rfl
theorem evOp_loc (hd : okD md C e h o = true) (hev : evOp md C e h k n o = some (d, h', n')) : Loc md C e h k n o d h' n' := by
  -- an operation that leaves the blocks alone and does not look at them
  have pure : isCall o = false → touch e o = ([], []) → (∀ h2, okD md C e h2 o = true) → (∀ h2, ∀ r, evP e h k o = some r → r.2 = h ∧ evP e h2 k o = some (r.1, h2)) → Loc md C e h k n o d h' n' := by
    intro hc ht hk hp
    have : ∃ r, evP e h k o = some r := by
      unfold evOp at hev
      rw [if_neg (by rw [hc]; simp)] at hev
      simp only [Option.bind_eq_some_iff] at hev
      obtain ⟨r, hr, _⟩ := hev
      exact ⟨r, hr⟩
    obtain ⟨r, hr⟩ := this
    obtain ⟨p1, _⟩ := hp h r hr
    refine plain_loc hc (fun h2 _ _ => hk h2) hr (fun l _ _ => by rw [p1]) (fun h2 _ _ a3 => ?_) hev
    obtain ⟨_, p2⟩ := hp h2 r hr
    rw [p2, ht, p1, pat_same a3]
  have fresh : isCall o = false → touch e o = ([], []) → (∀ h2, okD md C e h2 o = true) → (∀ h2, ∀ r, evP e h k o = some r → ∃ ob, r.2 = hput h k ob ∧ evP e h2 k o = some (r.1, hput h2 k ob)) → Loc md C e h k n o d h' n' := by
    intro hc ht hk hp
    have : ∃ r, evP e h k o = some r := by
      unfold evOp at hev
      rw [if_neg (by rw [hc]; simp)] at hev
      simp only [Option.bind_eq_some_iff] at hev
      obtain ⟨r, hr, _⟩ := hev
      exact ⟨r, hr⟩
    obtain ⟨r, hr⟩ := this
    obtain ⟨ob, p1, _⟩ := hp h r hr
    refine plain_loc hc (fun h2 _ _ => hk h2) hr (fun l _ hl => by rw [p1, hput_ne _ _ (fun he => hl ⟨by omega, by have w8 : W8 = 8 := rfl; omega⟩)]) (fun h2 _ _ a3 => ?_) hev
    obtain ⟨ob2, p2, p3⟩ := hp h2 r hr
    rw [p3, ht, p2, pat_put a3]
  have reads : isCall o = false → (touch e o).2 = [] → (∀ h2, okD md C e h2 o = true) → (∀ h2, Agr (touch e o).1 h h2 → ∀ r, evP e h k o = some r → r.2 = h ∧ evP e h2 k o = some (r.1, h2)) → Loc md C e h k n o d h' n' := by
    intro hc ht hk hp
    have : ∃ r, evP e h k o = some r := by
      unfold evOp at hev
      rw [if_neg (by rw [hc]; simp)] at hev
      simp only [Option.bind_eq_some_iff] at hev
      obtain ⟨r, hr, _⟩ := hev
      exact ⟨r, hr⟩
    obtain ⟨r, hr⟩ := this
    obtain ⟨p1, _⟩ := hp h (fun _ _ => rfl) r hr
    refine plain_loc hc (fun h2 _ _ => hk h2) hr (fun l _ _ => by rw [p1]) (fun h2 a1 _ a3 => ?_) hev
    obtain ⟨_, p2⟩ := hp h2 a1 r hr
    rw [p2, ht, p1, pat_same a3]
  cases o with
  | mv x => exact pure rfl rfl (fun _ => rfl) (fun h2 r hr => by simp only [evP, Option.some.injEq] at hr; subst hr; exact ⟨rfl, rfl⟩)
  | pick c a b => exact pure rfl rfl (fun _ => rfl) (fun h2 r hr => by simp only [evP, Option.bind_eq_some_iff, Option.some.injEq] at hr; obtain ⟨t, ht, rfl⟩ := hr; exact ⟨rfl, by simp only [evP, ht, Option.bind_some]⟩)
  | build z ps => exact pure rfl rfl (fun _ => rfl) (fun h2 r hr => by simp only [evP, Option.bind_eq_some_iff, Option.some.injEq] at hr; obtain ⟨t, ht, rfl⟩ := hr; exact ⟨rfl, by simp only [evP, ht, Option.bind_some]⟩)
  | bin bt op x y => exact pure rfl rfl (fun _ => rfl) (fun h2 r hr => by simp only [evP, Option.bind_eq_some_iff, Option.some.injEq] at hr; obtain ⟨t, ht, rfl⟩ := hr; exact ⟨rfl, by simp only [evP, ht, Option.bind_some]⟩)
  | un op x => exact pure rfl rfl (fun _ => rfl) (fun h2 r hr => by simp only [evP, Option.bind_eq_some_iff, Option.some.injEq] at hr; obtain ⟨t, ht, rfl⟩ := hr; exact ⟨rfl, by simp only [evP, ht, Option.bind_some]⟩)
  | eqs neg ks x y => exact pure rfl rfl (fun _ => rfl) (fun h2 r hr => by
      simp only [evP] at hr ⊢
      split at hr
      · simp only [Option.bind_eq_some_iff, Option.some.injEq] at hr; obtain ⟨t, ht, rfl⟩ := hr; exact ⟨rfl, by rename_i h1 h2'; simp only [h1, h2', ht, Option.bind_some]⟩
      · cases hr)
  | ext x j => exact pure rfl rfl (fun _ => rfl) (fun h2 r hr => by
      simp only [evP] at hr ⊢
      split at hr
      · rename_i cs hx; simp only [Option.bind_eq_some_iff, Option.some.injEq] at hr ⊢; obtain ⟨t, ht, rfl⟩ := hr; exact ⟨rfl, t, ht, rfl⟩
      · cases hr)
  | fld m ag off x => exact pure rfl rfl (fun _ => rfl) (fun h2 r hr => by
      simp only [evP] at hr ⊢
      split at hr
      · rename_i cs hx; simp only [Option.bind_eq_some_iff, Option.some.injEq] at hr; obtain ⟨t, ht, u, hu, rfl⟩ := hr; exact ⟨rfl, by simp only [hx, ht, hu, Option.bind_some]⟩
      · cases hr)
  | fad off x => exact pure rfl rfl (fun _ => rfl) (fun h2 r hr => by
      simp only [evP] at hr ⊢
      split at hr
      · rename_i cs oo hx; simp only [Option.some.injEq] at hr; subst hr; exact ⟨rfl, by simp only [hx]⟩
      · rename_i l i oo hx; simp only [Option.some.injEq] at hr; subst hr; exact ⟨rfl, by simp only [hx]⟩
      · cases hr)
  | iaA m sz x i => exact pure rfl rfl (fun _ => rfl) (fun h2 r hr => by
      simp only [evP, Option.bind_eq_some_iff] at hr ⊢
      obtain ⟨j, hj, hr⟩ := hr
      split at hr
      · rename_i hb
        split at hr
        · rename_i cs oo hx; simp only [Option.some.injEq] at hr; subst hr; exact ⟨rfl, j, hj, by rw [if_pos hb]⟩
        · rename_i l i oo hx; simp only [Option.some.injEq] at hr; subst hr; exact ⟨rfl, j, hj, by rw [if_pos hb]⟩
        · cases hr
      · cases hr)
  | ixS x i => exact pure rfl rfl (fun _ => rfl) (fun h2 r hr => by
      simp only [evP, Option.bind_eq_some_iff] at hr ⊢
      obtain ⟨j, hj, hr⟩ := hr
      split at hr
      · rename_i s hx
        split at hr
        · rename_i hb; simp only [Option.some.injEq] at hr; subst hr; exact ⟨rfl, j, hj, by simp only [hx]; rw [dif_pos hb]⟩
        · cases hr
      · cases hr)
  | mkfn f xs => exact pure rfl rfl (fun _ => rfl) (fun h2 r hr => by simp only [evP, Option.some.injEq] at hr; subst hr; exact ⟨rfl, rfl⟩)
  | slS x lo hi => exact pure rfl rfl (fun _ => rfl) (fun h2 r hr => by
      simp only [evP] at hr ⊢
      split at hr
      · rename_i s hx
        simp only [Option.bind_eq_some_iff] at hr
        obtain ⟨a, ha, b, hb, hr⟩ := hr
        split at hr
        · rename_i hab; simp only [Option.some.injEq] at hr; subst hr; exact ⟨rfl, by simp only [hx, ha, hb, Option.bind_some]; rw [if_pos hab]⟩
        · cases hr
      · cases hr)
  | nilc x => exact pure rfl rfl (fun _ => rfl) (fun h2 r hr => by
      simp only [evP] at hr ⊢
      split at hr
      · rename_i cs oo hx; simp only [Option.some.injEq] at hr; subst hr; exact ⟨rfl, by simp only [hx]⟩
      · rename_i l i oo hx; simp only [Option.some.injEq] at hr; subst hr; exact ⟨rfl, by simp only [hx]⟩
      · cases hr)
  | alloc z => exact fresh rfl rfl (fun _ => rfl) (fun h2 r hr => by simp only [evP, Option.some.injEq] at hr; subst hr; exact ⟨_, rfl, rfl⟩)
  | box m x => exact fresh rfl rfl (fun _ => rfl) (fun h2 r hr => by
      simp only [evP, Option.bind_eq_some_iff] at hr ⊢
      obtain ⟨cs, hcs, hr⟩ := hr
      split at hr
      · rename_i hl; simp only [Option.some.injEq] at hr; subst hr; exact ⟨_, rfl, cs, hcs, by rw [if_pos hl]⟩
      · cases hr)
  | mks t sz by_ z x y => exact fresh rfl rfl (fun _ => rfl) (fun h2 r hr => by
      simp only [evP, Option.bind_eq_some_iff] at hr ⊢
      obtain ⟨a, ha, b, hb, hr⟩ := hr
      split at hr
      · rename_i hl; simp only [Option.some.injEq] at hr; subst hr; exact ⟨_, rfl, a, ha, b, hb, by rw [if_pos hl]⟩
      · cases hr)
  | bsl t sz z m ps =>
    have him : (ps.map fun p => p.2.ev e).all D.imA = true := hd
    exact fresh rfl rfl (fun _ => hd) (fun h2 r hr => by
      simp only [evP, frzL_imA him, Option.bind_some, Option.bind_eq_some_iff, Option.some.injEq] at hr ⊢
      obtain ⟨xs, hxs, rfl⟩ := hr
      exact ⟨_, rfl, xs, hxs, rfl⟩)
  | load m ag x => exact reads rfl rfl (fun _ => rfl) (fun h2 a1 r hr => by
      simp only [evP, Option.bind_eq_some_iff, Option.some.injEq] at hr ⊢
      obtain ⟨cs, hcs, u, hu, rfl⟩ := hr
      exact ⟨rfl, cs, by rw [cellsAt_agr a1]; exact hcs, u, hu, rfl⟩)
  | iaS sz x i => exact reads rfl rfl (fun _ => rfl) (fun h2 a1 r hr => by
      simp only [evP, Option.bind_eq_some_iff] at hr ⊢
      obtain ⟨j, hj, hr⟩ := hr
      split at hr
      · rename_i hb
        split at hr
        · rename_i xs hx
          split at hr
          · rename_i y hy
            split at hr
            · rename_i hyl; simp only [Option.some.injEq] at hr; subst hr; exact ⟨rfl, j, hj, by rw [if_pos hb]; simp only [hx, hy]; rw [if_pos hyl]⟩
            · cases hr
          · cases hr
        · rename_i l hx
          have hl : h2 l = h l := a1 l (by simp [touch, hx, D.nm])
          split at hr
          · rename_i t' sz' xs own hob
            split at hr
            · rename_i hc; simp only [Option.some.injEq] at hr; subst hr; exact ⟨rfl, j, hj, by rw [if_pos hb]; simp only [hx, hl, hob]; rw [if_pos hc]⟩
            · cases hr
          · cases hr
        · cases hr
      · cases hr)
  | len st x => exact reads rfl rfl (fun _ => rfl) (fun h2 a1 r hr => by
      cases st with
      | true =>
        simp only [evP, if_true] at hr ⊢
        split at hr
        · rename_i s hx; simp only [Option.some.injEq] at hr; subst hr; exact ⟨rfl, by simp only [hx]⟩
        · cases hr
      | false =>
        simp only [evP, Bool.false_eq_true, if_false, Option.bind_eq_some_iff, Option.some.injEq] at hr ⊢
        obtain ⟨xs, hxs, rfl⟩ := hr
        exact ⟨rfl, xs, by rw [elems_agr a1]; exact hxs, rfl⟩)
  | store m x y =>
    have : ∃ cs h1, (y.ev e).cells = some cs ∧ putAt h m cs (x.ev e) = some h1 := by
      unfold evOp at hev
      simp only [isCall, Bool.false_eq_true, if_false, evP, Option.bind_eq_some_iff] at hev
      obtain ⟨r, ⟨cs, hcs, h1, hh, _⟩, _⟩ := hev
      exact ⟨cs, h1, hcs, hh⟩
    obtain ⟨cs, h1, hcs, hp⟩ := this
    obtain ⟨j, ob, hj, rfl, _⟩ := putAt_agr (fun _ _ => rfl) hp
    refine plain_loc (r := (.und, hput h j ob)) rfl (fun _ _ _ => rfl) (by simp only [evP, hcs, hp, Option.bind_some]) (fun l hl _ => hput_ne _ _ (fun he => hl (by simp only [touch]; rw [hj, he]; simp))) (fun h2 _ a2 a3 => ?_) hev
    obtain ⟨j2, ob2, hj2, he2, hp2⟩ := putAt_agr a2 hp
    rw [hj] at hj2
    obtain rfl : j = j2 := by simpa using hj2
    have hob : ob2 = ob := by have := congrFun he2 j; rw [hput_same, hput_same] at this; exact this.symm
    subst hob
    simp only [evP, hcs, hp2, Option.bind_some]
    simp only [touch]
    rw [hj, pat_set a3]
  | app t sz by_ x y =>
    have hev0 := hev
    unfold evOp at hev
    simp only [isCall, Bool.false_eq_true, if_false, Option.bind_eq_some_iff] at hev
    obtain ⟨r, hr, _⟩ := hev
    have hr0 := hr
    simp only [evP, Option.bind_eq_some_iff] at hr
    obtain ⟨ys, hys, hr⟩ := hr
    split at hr
    · rename_i hx
      split at hr
      · rename_i hc
        simp only [Option.some.injEq] at hr
        subst hr
        have hnm : (touch e (.app t sz by_ x y)).2 = [] := by simp [touch, hx, D.nm]
        refine plain_loc rfl (fun _ _ _ => hd) hr0 (fun l _ hl => hput_ne _ _ (fun he => hl ⟨by omega, by have w8 : W8 = 8 := rfl; omega⟩)) (fun h2 a1 a2 a3 => ?_) hev0
        rw [hnm, pat_put a3]
        simp only [evP]
        rw [elems_agr a1, hys]
        simp only [Option.bind_some, hx]
        rw [if_pos hc]
      · cases hr
    · rename_i l hx
      split at hr
      · rename_i t' sz' xs hob
        split at hr
        · rename_i hc
          simp only [Option.some.injEq] at hr
          subst hr
          have hnm : (touch e (.app t sz by_ x y)).2 = [l] := by simp [touch, hx, D.nm]
          refine plain_loc rfl (fun _ _ _ => hd) hr0 (fun j hj hl => ?_) (fun h2 a1 a2 a3 => ?_) hev0
          · rw [hnm] at hj
            have n1 : j ≠ k := fun he => hl ⟨by omega, by have w8 : W8 = 8 := rfl; omega⟩
            have n2 : j ≠ l := fun he => hj (by rw [he]; simp)
            show hput (hput h l .no) k _ j = h j
            rw [hput_ne _ _ n1, hput_ne _ _ n2]
          · rw [hnm] at a2 ⊢
            rw [pat_app a3]
            simp only [evP]
            rw [elems_agr a1, hys]
            simp only [Option.bind_some, hx]
            rw [a2 l (by simp), hob]
            simp only
            rw [if_pos hc]
        · cases hr
      · cases hr
    · cases hr
  | call f xs => exact call_loc rfl rfl rfl (fun h => rfl) hd hev
  | callv x xs =>
    cases hx : x.ev e with
    | fn f caps => exact call_loc (f := f) (args := xs.map (X.ev e) ++ caps) (by simp only [target, hx]) rfl (by simp only [touch, hx]) (fun h => by simp only [okD, hx]) hd hev
    | _ => simp only [okD, hx] at hd; cases hd
  | mkmap => cases hd
  | mget z x i => cases hd
  | mput x i y => cases hd
end
end Go.Proofs.Ytoemdhcnfmkkaaa.AE
