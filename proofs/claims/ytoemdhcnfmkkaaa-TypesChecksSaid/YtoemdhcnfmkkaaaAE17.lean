/-
  AE, part 17: regions whose order is drawn: any order does what the text's order does.
-/
import Derived.Test.YtoemdhcnfmkkaaaAE16
set_option linter.unusedVariables false
set_option linter.unusedSimpArgs false
namespace Go.Proofs.Ytoemdhcnfmkkaaa.AE
open Go Go.RowKit
abbrev ES := Env × Hp
abbrev Tch := List Nat × List Nat
section
variable {P : Program} {md : Nat → Bool} {C : Calls1} {e e' : Env} {h h' h2 : Hp} {k n : Nat} {d : D} {x y : XO} {T U : Tch} {i j : Nat}

/-- What one operation of a region does to the blocks, and what it yields. -/
def Eff (md : Nat → Bool) (C : Calls1) (k n : Nat) (x : XO) (T : Tch) (e : Env) (h : Hp) (d : D) (h' : Hp) : Prop :=
  ∃ b, wantedD e x.g = some b ∧ ((b = true ∧ okD md C e h x.op = true ∧ touch e x.op = T ∧ evOp md C e h k n x.op = some (d, h', n)) ∨ (b = false ∧ T = ([], []) ∧ d = .und ∧ h' = h))
theorem rd_ev (he : ∀ t ∈ x.rd, e t = e' t) : (∀ y ∈ x.op.xs, y.ev e = y.ev e') ∧ wantedD e x.g = wantedD e' x.g := by
  refine ⟨fun y hy => ev_congr fun t ht => he t ?_, ?_⟩
  · exact List.mem_append.2 (.inl (List.mem_flatMap.2 ⟨y, hy, ht⟩))
  · cases hg : x.g with
    | none => rfl
    | some p =>
      obtain ⟨t, b⟩ := p
      simp only [wantedD]
      rw [he t (by simp [XO.rd, hg])]
theorem Eff.congr (he : ∀ t ∈ x.rd, e t = e' t) (hE : Eff md C k n x T e h d h') : Eff md C k n x T e' h d h' := by
  obtain ⟨h1, h2⟩ := rd_ev he
  obtain ⟨b, hb, hE⟩ := hE
  refine ⟨b, by rw [← h2]; exact hb, ?_⟩
  rcases hE with ⟨hb1, ho, ht, hv⟩ | hE
  · exact .inl ⟨hb1, by rw [← okD_congr h1]; exact ho, by rw [← touch_congr h1]; exact ht, by rw [← evOp_congr h1]; exact hv⟩
  · exact .inr hE
theorem Eff.far (hE : Eff md C k n x T e h d h') : ∀ l, l ∉ T.2 → ¬ (k ≤ l ∧ l < k + W8) → h' l = h l := by
  obtain ⟨b, hb, hE⟩ := hE
  rcases hE with ⟨hb1, ho, rfl, hv⟩ | ⟨_, _, _, rfl⟩
  · exact (evOp_loc ho hv).far
  · exact fun _ _ _ => rfl
theorem Eff.mv (hE : Eff md C k n x T e h d h') (a1 : Agr T.1 h h2) (a2 : Agr T.2 h h2) (a3 : AgN k h h2) : Eff md C k n x T e h2 d (pat T.2 k h' h2) := by
  obtain ⟨b, hb, hE⟩ := hE
  refine ⟨b, hb, ?_⟩
  rcases hE with ⟨hb1, ho, rfl, hv⟩ | ⟨hb1, rfl, hd, rfl⟩
  · obtain ⟨p1, p2⟩ := (evOp_loc ho hv).mv h2 a1 a2 a3
    exact .inl ⟨hb1, p1, rfl, p2⟩
  · exact .inr ⟨hb1, rfl, hd, pat_same a3⟩
theorem eputO_rd {dst : Option Nat} (hn : ∀ t, dst = some t → t ∉ x.rd) (d : D) : ∀ t ∈ x.rd, eputO e dst d t = e t := by
  intro t ht
  cases dst with
  | none => rfl
  | some s => exact eput_ne _ _ fun he => hn s rfl (he ▸ ht)
theorem eputO_comm {a b : Option Nat} (hn : ∀ t, a = some t → b ≠ some t) (d d' : D) : eputO (eputO e a d) b d' = eputO (eputO e b d') a d := by
  cases a with
  | none => rfl
  | some t =>
    cases b with
    | none => rfl
    | some s =>
      have hts : s ≠ t := fun he => hn t rfl (by rw [he])
      funext l
      simp only [eputO, eput]
      by_cases h1 : l = t
      · subst h1
        rw [if_pos rfl, if_neg (Ne.symm hts), if_pos rfl]
      · by_cases h2 : l = s
        · subst h2; simp [h1]
        · simp [h1, h2]
theorem apart_spec (hp : x.apart y = true) : (∀ t, x.dst = some t → t ∉ y.rd) ∧ (∀ t, x.dst = some t → y.dst ≠ some t) ∧ (∀ t, y.dst = some t → t ∉ x.rd) := by
  refine ⟨fun t ht => ?_, fun t ht => ?_, fun t ht => ?_⟩ <;> simp [XO.apart, ht] at hp
  · exact hp.1.1
  · exact hp.1.2
  · exact hp.2
theorem apartT_spec (hp : apartT T U = true) : (∀ l ∈ T.2, l ∉ U.1 ∧ l ∉ U.2) ∧ (∀ l ∈ U.2, l ∉ T.1 ∧ l ∉ T.2) := by
  simp only [apartT, Bool.and_eq_true, Bool.not_eq_true', List.any_eq_false, Bool.or_eq_true, List.contains_iff_mem, not_or] at hp
  exact ⟨hp.1, fun l hl => ⟨hp.2 l hl, fun hl' => (hp.1 l hl').2 hl⟩⟩
def NoN (T : Tch) (k : Nat) : Prop := ∀ l, (l ∈ T.1 ∨ l ∈ T.2) → ¬ (k ≤ l ∧ l < k + W8)
/-- Two neighbours change places. -/
theorem eff_comm {kx ky : Nat} (hk : kx + W8 ≤ ky ∨ ky + W8 ≤ kx) (hxy : x.apart y = true) (hT : apartT T U = true) (hn1 : NoN T ky) (hn2 : NoN U kx) {dx dy : D} {h1 h2 : Hp}
    (hx : Eff md C kx n x T e h dx h1) (hy : Eff md C ky n y U (eputO e x.dst dx) h1 dy h2) :
    ∃ h1', Eff md C ky n y U e h dy h1' ∧ Eff md C kx n x T (eputO e y.dst dy) h1' dx h2 ∧ eputO (eputO e y.dst dy) x.dst dx = eputO (eputO e x.dst dx) y.dst dy := by
  obtain ⟨p1, p2, p3⟩ := apart_spec hxy
  obtain ⟨q1, q2⟩ := apartT_spec hT
  have y0 := Eff.congr (e' := e) (fun t ht => eputO_rd p1 dx t ht) hy
  have far1 := hx.far
  have far2 := y0.far
  have b1 : Agr U.1 h1 h := fun l hl => (far1 l (fun hl' => (q1 l hl').1 hl) (hn2 l (.inl hl))).symm
  have b2 : Agr U.2 h1 h := fun l hl => (far1 l (fun hl' => (q1 l hl').2 hl) (hn2 l (.inr hl))).symm
  have b3 : AgN ky h1 h := fun l h3 h4 => (far1 l (fun hl' => hn1 l (.inr hl') ⟨h3, h4⟩) (by omega)).symm
  have y1 := y0.mv b1 b2 b3
  refine ⟨_, y1, ?_, (eputO_comm p2 dx dy).symm⟩
  have out : ∀ l, l ∉ U.2 → ¬ (ky ≤ l ∧ l < ky + W8) → pat U.2 ky h2 h l = h l := fun l h3 h4 => by
    unfold pat
    rw [if_neg (by rintro (h5 | h5); exact h3 h5; exact h4 h5)]
  have c1 : Agr T.1 h (pat U.2 ky h2 h) := fun l hl => out l (fun hl' => (q2 l hl').1 hl) (hn1 l (.inl hl))
  have c2 : Agr T.2 h (pat U.2 ky h2 h) := fun l hl => out l (fun hl' => (q2 l hl').2 hl) (hn1 l (.inr hl))
  have c3 : AgN kx h (pat U.2 ky h2 h) := fun l h3 h4 => out l (fun hl' => hn2 l (.inr hl') ⟨h3, h4⟩) (by omega)
  have x1 := (Eff.congr (e' := eputO e y.dst dy) (fun t ht => (eputO_rd p3 dy t ht).symm) hx).mv c1 c2 c3
  have hh : pat T.2 kx h1 (pat U.2 ky h2 h) = h2 := by
    funext l
    unfold pat
    by_cases hl : l ∈ T.2 ∨ (kx ≤ l ∧ l < kx + W8)
    · rw [if_pos hl]
      refine (far2 l ?_ ?_).symm
      · rintro hu
        rcases hl with hl | hl
        · exact (q1 l hl).2 hu
        · exact hn2 l (.inr hu) hl
      · rintro hu
        rcases hl with hl | hl
        · exact hn1 l (.inr hl) hu
        · omega
    · rw [if_neg hl]
      by_cases hu : l ∈ U.2 ∨ (ky ≤ l ∧ l < ky + W8)
      · rw [if_pos hu]
      · rw [if_neg hu]
        have e1 : h1 l = h l := far1 l (fun a => hl (.inl a)) (fun a => hl (.inr a))
        have e2 : h2 l = h1 l := far2 l (fun a => hu (.inl a)) (fun a => hu (.inr a))
        rw [e2, e1]
  rw [hh] at x1
  exact x1

/-- One operation of the region xs, by its number. -/
def Step (md : Nat → Bool) (C : Calls1) (k n : Nat) (xs : List XO) (ts : List Tch) (i : Nat) (s s' : ES) : Prop :=
  ∃ x d, xs[i]? = some x ∧ Eff md C (k + W8 * i) n x (ts.getD i ([], [])) s.1 s.2 d s'.2 ∧ s'.1 = eputO s.1 x.dst d
def RunT (md : Nat → Bool) (C : Calls1) (k n : Nat) (xs : List XO) (ts : List Tch) : List Nat → ES → ES → Prop
  | [], s, s' => s' = s
  | i :: r, s, s' => ∃ s1, Step md C k n xs ts i s s1 ∧ RunT md C k n xs ts r s1 s'
theorem step_comm {xs : List XO} {ts : List Tch} (hij : i ≠ j) {x y : XO} (hx : xs[i]? = some x) (hy : xs[j]? = some y) (hxy : x.apart y = true) (hT : apartT (ts.getD i ([], [])) (ts.getD j ([], [])) = true)
    (hn1 : NoN (ts.getD i ([], [])) (k + W8 * j)) (hn2 : NoN (ts.getD j ([], [])) (k + W8 * i)) {s s1 s2 : ES}
    (h1 : Step md C k n xs ts i s s1) (h2 : Step md C k n xs ts j s1 s2) : ∃ s1', Step md C k n xs ts j s s1' ∧ Step md C k n xs ts i s1' s2 := by
  obtain ⟨x', dx, hx', ex, ex2⟩ := h1
  rw [hx] at hx'; obtain rfl := Option.some.inj hx'
  obtain ⟨y', dy, hy', ey, ey2⟩ := h2
  rw [hy] at hy'; obtain rfl := Option.some.inj hy'
  have hk : k + W8 * i + W8 ≤ k + W8 * j ∨ k + W8 * j + W8 ≤ k + W8 * i := by show k + 8 * i + 8 ≤ k + 8 * j ∨ k + 8 * j + 8 ≤ k + 8 * i; omega
  rw [ex2] at ey
  obtain ⟨h1', r1, r2, r3⟩ := eff_comm hk hxy hT hn1 hn2 ex ey
  exact ⟨(eputO s.1 y.dst dy, h1'), ⟨y, dy, hy, r1, rfl⟩, ⟨x, dx, hx, r2, by rw [ey2, ex2]; exact r3.symm⟩⟩
theorem runT_of {xs : List XO} {ts : List Tch} : ∀ (l : List XO) (off : Nat) (tl : List Tch) (s s' : St), xs.drop off = l → ts.drop off = tl → s.k = n → evOpsD md C (k + W8 * off) l s = some (tl, s') →
    RunT md C k n xs ts (List.range' off l.length) (s.e, s.h) (s'.e, s'.h) ∧ s'.k = n
  | [], off, tl, s, s', hx, ht, hn, hev => by
    simp only [evOpsD, Option.some.injEq, Prod.mk.injEq] at hev
    obtain ⟨_, rfl⟩ := hev
    exact ⟨rfl, hn⟩
  | x :: r, off, tl, s, s', hx, ht, hn, hev => by
    have hxo : xs[off]? = some x := by
      have := congrArg (·[0]?) hx
      simpa using this
    have hxr : xs.drop (off + 1) = r := by
      have := congrArg List.tail hx
      simpa using this
    have hk : k + W8 * off + W8 = k + W8 * (off + 1) := by rw [Nat.mul_succ]; omega
    simp only [evOpsD, Option.bind_eq_some_iff] at hev
    obtain ⟨b, hb, hev⟩ := hev
    have htl : ∀ T tr, tl = T :: tr → ts.getD off ([], []) = T ∧ ts.drop (off + 1) = tr := by
      intro T tr hT
      rw [hT] at ht
      constructor
      · have := congrArg (·[0]?) ht
        rw [List.getD_eq_getElem?_getD]
        simp at this
        rw [this]; rfl
      · have := congrArg List.tail ht
        simpa using this
    cases b with
    | true =>
      simp only [if_true] at hev
      split at hev
      · rename_i hok
        simp only [Option.bind_eq_some_iff, Option.some.injEq, Prod.mk.injEq] at hev
        obtain ⟨⟨d, h', n'⟩, hop, ⟨tr, s2⟩, hrest, hz1, hz2⟩ := hev
        simp only at hz1 hz2 hrest
        subst hz2
        obtain ⟨t1, t2⟩ := htl _ _ hz1.symm
        have hn' : n' = s.k := (evOp_loc hok hop).nn
        rw [hk] at hrest
        obtain ⟨r1, r2⟩ := runT_of r (off + 1) tr _ s2 hxr t2 (by simp only [hn']; exact hn) hrest
        refine ⟨?_, r2⟩
        rw [List.length_cons, List.range'_succ]
        subst hn' hn
        exact ⟨_, ⟨x, d, hxo, ⟨true, hb, .inl ⟨rfl, hok, t1.symm, hop⟩⟩, rfl⟩, r1⟩
      · cases hev
    | false =>
      simp only [Bool.false_eq_true, if_false, Option.bind_eq_some_iff, Option.some.injEq, Prod.mk.injEq] at hev
      obtain ⟨⟨tr, s2⟩, hrest, hz1, hz2⟩ := hev
      simp only at hz1 hz2
      subst hz2
      obtain ⟨t1, t2⟩ := htl _ _ hz1.symm
      rw [hk] at hrest
      obtain ⟨r1, r2⟩ := runT_of r (off + 1) tr ⟨eputO s.e x.dst .und, s.h, s.k⟩ s2 hxr t2 hn hrest
      refine ⟨?_, r2⟩
      rw [List.length_cons, List.range'_succ]
      exact ⟨(eputO s.e x.dst .und, s.h), ⟨x, .und, hxo, ⟨false, hb, .inr ⟨rfl, t1, rfl, rfl⟩⟩, rfl⟩, r1⟩
end
end Go.Proofs.Ytoemdhcnfmkkaaa.AE
