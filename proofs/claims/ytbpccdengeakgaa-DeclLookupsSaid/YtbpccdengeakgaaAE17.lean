/-
  AE, part 17: regions whose order is drawn: any order does what the text's order does.
-/
import Derived.Test.YtbpccdengeakgaaAE16
set_option linter.unusedVariables false
set_option linter.unusedSimpArgs false
namespace Go.Proofs.Ytbpccdengeakgaa.AE
open Go Go.RowKit
abbrev ES := Env × Hp
abbrev Tch := List Nat × List Nat
section
variable {P : Program} {md : Nat → Bool} {C : Calls1} {e e' : Env} {h h' h2 : Hp} {k n : Nat} {d : D} {x y : XO} {T U : Tch} {i j : Nat}

/-- What one operation of a region does to the blocks, and what it yields; m: it is the call on the caller's own blocks; nE: the names behind that. -/
def Eff (md : Nat → Bool) (C : Calls1) (k n nE : Nat) (m : Bool) (x : XO) (T : Tch) (e : Env) (h : Hp) (d : D) (h' : Hp) : Prop :=
  ∃ b, wantedD e x.g = some b ∧ ((b = true ∧ okD md C e h n x.op = true ∧ touch md e h x.op = T ∧ isMd md e x.op = m ∧ evOp md C e h k n x.op = some (d, h', if m then nE else n)) ∨ (b = false ∧ T = ([], []) ∧ d = .und ∧ h' = h ∧ m = false))
theorem rd_ev (he : ∀ t ∈ x.rd, e t = e' t) : (∀ y ∈ x.op.xs, y.ev e = y.ev e') ∧ wantedD e x.g = wantedD e' x.g := by
  refine ⟨fun y hy => ev_congr fun t ht => he t ?_, ?_⟩
  · exact List.mem_append.2 (.inl (List.mem_flatMap.2 ⟨y, hy, ht⟩))
  · cases hg : x.g with
    | none => rfl
    | some p =>
      obtain ⟨t, b⟩ := p
      simp only [wantedD]
      rw [he t (by simp [XO.rd, hg])]
variable {nE : Nat} {m m' : Bool}
theorem Eff.congr (he : ∀ t ∈ x.rd, e t = e' t) (hE : Eff md C k n nE m x T e h d h') : Eff md C k n nE m x T e' h d h' := by
  obtain ⟨h1, h2⟩ := rd_ev he
  obtain ⟨b, hb, hE⟩ := hE
  refine ⟨b, by rw [← h2]; exact hb, ?_⟩
  rcases hE with ⟨hb1, ho, ht, hm, hv⟩ | hE
  · exact .inl ⟨hb1, by rw [← okD_congr h1]; exact ho, by rw [← touch_congr h1]; exact ht, by rw [← isMd_congr h1]; exact hm, by rw [← evOp_congr h1]; exact hv⟩
  · exact .inr hE
theorem Eff.far (HF : FrameOk C) (hE : Eff md C k n nE m x T e h d h') : ∀ l, l ∉ T.2 → ¬ WinM k n m l = true → h' l = h l := by
  obtain ⟨b, hb, hE⟩ := hE
  rcases hE with ⟨hb1, ho, rfl, rfl, hv⟩ | ⟨_, _, _, rfl, _⟩
  · exact (evOp_loc HF ho hv).far
  · exact fun _ _ _ => rfl
theorem pat_nil {W : Nat → Bool} (ha : AgW W h h2) : pat [] W h h2 = h2 := by
  funext l
  unfold pat
  split
  · rename_i hl
    rcases hl with hl | hl
    · cases hl
    · exact (ha l hl).symm
  · rfl
theorem Eff.mv (HF : FrameOk C) (hE : Eff md C k n nE m x T e h d h') (a1 : Agr T.1 h h2) (a2 : Agr T.2 h h2) (a3 : AgW (WinM k n m) h h2) : Eff md C k n nE m x T e h2 d (pat T.2 (WinM k n m) h' h2) := by
  obtain ⟨b, hb, hE⟩ := hE
  refine ⟨b, hb, ?_⟩
  rcases hE with ⟨hb1, ho, rfl, rfl, hv⟩ | ⟨hb1, rfl, hd, rfl, rfl⟩
  · obtain ⟨p1, p2, p3⟩ := (evOp_loc HF ho hv).mv h2 a1 a2 a3
    exact .inl ⟨hb1, p1, p2, rfl, p3⟩
  · exact .inr ⟨hb1, rfl, hd, pat_nil a3, rfl⟩
theorem eputO_rd {dst : Option Nat} (hn : ∀ t, dst = some t → t ∉ x.rd) (d : D) : ∀ t ∈ x.rd, eputO e dst d t = e t := by
  intro t ht
  cases dst with
  | none => rfl
  | some s => exact eput_ne _ _ fun he => hn s rfl (he ▸ ht)
theorem eputO_comm {a b : Option Nat} (hn : ∀ t, a = some t → b ≠ some t) (d d' : D) : eputO (eputO e a d) b d' = eputO (eputO e b d') a d := by
  cases a with
  | none => rfl
  | some t =>
    cases b with
    | none => rfl
    | some s =>
      have hts : s ≠ t := fun he => hn t rfl (by rw [he])
      funext l
      simp only [eputO, eput]
      by_cases h1 : l = t
      · subst h1
        rw [if_pos rfl, if_neg (Ne.symm hts), if_pos rfl]
      · by_cases h2 : l = s
        · subst h2; simp [h1]
        · simp [h1, h2]
theorem apart_spec (hp : x.apart y = true) : (∀ t, x.dst = some t → t ∉ y.rd) ∧ (∀ t, x.dst = some t → y.dst ≠ some t) ∧ (∀ t, y.dst = some t → t ∉ x.rd) := by
  refine ⟨fun t ht => ?_, fun t ht => ?_, fun t ht => ?_⟩ <;> simp [XO.apart, ht] at hp
  · exact hp.1.1
  · exact hp.1.2
  · exact hp.2
theorem apartT_spec (hp : apartT T U = true) : (∀ l ∈ T.2, l ∉ U.1 ∧ l ∉ U.2) ∧ (∀ l ∈ U.2, l ∉ T.1 ∧ l ∉ T.2) := by
  simp only [apartT, Bool.and_eq_true, Bool.not_eq_true', List.any_eq_false, Bool.or_eq_true, List.contains_iff_mem, not_or] at hp
  exact ⟨hp.1, fun l hl => ⟨hp.2 l hl, fun hl' => (hp.1 l hl').2 hl⟩⟩
def NoN (T : Tch) (W : Nat → Bool) : Prop := ∀ l, (l ∈ T.1 ∨ l ∈ T.2) → ¬ W l = true
/-- Two neighbours change places. -/
theorem eff_comm (HF : FrameOk C) {kx ky : Nat} {mx my : Bool} (hk : ∀ l, WinM kx n mx l = true → ¬ WinM ky n my l = true) (hxy : x.apart y = true) (hT : apartT T U = true) (hn1 : NoN T (WinM ky n my)) (hn2 : NoN U (WinM kx n mx)) {dx dy : D} {h1 h2 : Hp}
    (hx : Eff md C kx n nE mx x T e h dx h1) (hy : Eff md C ky n nE my y U (eputO e x.dst dx) h1 dy h2) :
    ∃ h1', Eff md C ky n nE my y U e h dy h1' ∧ Eff md C kx n nE mx x T (eputO e y.dst dy) h1' dx h2 ∧ eputO (eputO e y.dst dy) x.dst dx = eputO (eputO e x.dst dx) y.dst dy := by
  obtain ⟨p1, p2, p3⟩ := apart_spec hxy
  obtain ⟨q1, q2⟩ := apartT_spec hT
  have y0 := Eff.congr (e' := e) (fun t ht => eputO_rd p1 dx t ht) hy
  have far1 := hx.far HF
  have far2 := y0.far HF
  have b1 : Agr U.1 h1 h := fun l hl => (far1 l (fun hl' => (q1 l hl').1 hl) (hn2 l (.inl hl))).symm
  have b2 : Agr U.2 h1 h := fun l hl => (far1 l (fun hl' => (q1 l hl').2 hl) (hn2 l (.inr hl))).symm
  have b3 : AgW (WinM ky n my) h1 h := fun l h3 => (far1 l (fun hl' => hn1 l (.inr hl') h3) (fun h4 => hk l h4 h3)).symm
  have y1 := y0.mv HF b1 b2 b3
  refine ⟨_, y1, ?_, (eputO_comm p2 dx dy).symm⟩
  have out : ∀ l, l ∉ U.2 → ¬ WinM ky n my l = true → pat U.2 (WinM ky n my) h2 h l = h l := fun l h3 h4 => by
    unfold pat
    rw [if_neg (by rintro (h5 | h5); exact h3 h5; exact h4 h5)]
  have c1 : Agr T.1 h (pat U.2 (WinM ky n my) h2 h) := fun l hl => out l (fun hl' => (q2 l hl').1 hl) (hn1 l (.inl hl))
  have c2 : Agr T.2 h (pat U.2 (WinM ky n my) h2 h) := fun l hl => out l (fun hl' => (q2 l hl').2 hl) (hn1 l (.inr hl))
  have c3 : AgW (WinM kx n mx) h (pat U.2 (WinM ky n my) h2 h) := fun l h3 => out l (fun hl' => hn2 l (.inr hl') h3) (hk l h3)
  have x1 := (Eff.congr (e' := eputO e y.dst dy) (fun t ht => (eputO_rd p3 dy t ht).symm) hx).mv HF c1 c2 c3
  have hh : pat T.2 (WinM kx n mx) h1 (pat U.2 (WinM ky n my) h2 h) = h2 := by
    funext l
    unfold pat
    by_cases hl : l ∈ T.2 ∨ WinM kx n mx l = true
    · rw [if_pos hl]
      refine (far2 l ?_ ?_).symm
      · rintro hu
        rcases hl with hl | hl
        · exact (q1 l hl).2 hu
        · exact hn2 l (.inr hu) hl
      · rintro hu
        rcases hl with hl | hl
        · exact hn1 l (.inr hl) hu
        · exact hk l hl hu
    · rw [if_neg hl]
      by_cases hu : l ∈ U.2 ∨ WinM ky n my l = true
      · rw [if_pos hu]
      · rw [if_neg hu]
        have e1 : h1 l = h l := far1 l (fun a => hl (.inl a)) (fun a => hl (.inr a))
        have e2 : h2 l = h1 l := far2 l (fun a => hu (.inl a)) (fun a => hu (.inr a))
        rw [e2, e1]
  rw [hh] at x1
  exact x1

/-- The names that the operation number i may give. -/
def WinI (k n : Nat) (im : Nat → Bool) (i : Nat) : Nat → Bool := WinM (k + W8 * i) n (im i)
/-- One operation of the region xs, by its number. -/
def Step (md : Nat → Bool) (C : Calls1) (k n nE : Nat) (im : Nat → Bool) (xs : List XO) (ts : List Tch) (i : Nat) (s s' : ES) : Prop :=
  ∃ x d, xs[i]? = some x ∧ Eff md C (k + W8 * i) n nE (im i) x (ts.getD i ([], [])) s.1 s.2 d s'.2 ∧ s'.1 = eputO s.1 x.dst d
def RunT (md : Nat → Bool) (C : Calls1) (k n nE : Nat) (im : Nat → Bool) (xs : List XO) (ts : List Tch) : List Nat → ES → ES → Prop
  | [], s, s' => s' = s
  | i :: r, s, s' => ∃ s1, Step md C k n nE im xs ts i s s1 ∧ RunT md C k n nE im xs ts r s1 s'
variable {im : Nat → Bool}
theorem step_comm (HF : FrameOk C) {xs : List XO} {ts : List Tch} (hd : ∀ l, WinI k n im i l = true → ¬ WinI k n im j l = true) {x y : XO} (hx : xs[i]? = some x) (hy : xs[j]? = some y) (hxy : x.apart y = true) (hT : apartT (ts.getD i ([], [])) (ts.getD j ([], [])) = true)
    (hn1 : NoN (ts.getD i ([], [])) (WinI k n im j)) (hn2 : NoN (ts.getD j ([], [])) (WinI k n im i)) {s s1 s2 : ES}
    (h1 : Step md C k n nE im xs ts i s s1) (h2 : Step md C k n nE im xs ts j s1 s2) : ∃ s1', Step md C k n nE im xs ts j s s1' ∧ Step md C k n nE im xs ts i s1' s2 := by
  obtain ⟨x', dx, hx', ex, ex2⟩ := h1
  rw [hx] at hx'; obtain rfl := Option.some.inj hx'
  obtain ⟨y', dy, hy', ey, ey2⟩ := h2
  rw [hy] at hy'; obtain rfl := Option.some.inj hy'
  rw [ex2] at ey
  obtain ⟨h1', r1, r2, r3⟩ := eff_comm HF hd hxy hT hn1 hn2 ex ey
  exact ⟨(eputO s.1 y.dst dy, h1'), ⟨y, dy, hy, r1, rfl⟩, ⟨x, dx, hx, r2, by rw [ey2, ex2]; exact r3.symm⟩⟩
theorem drop_get {α : Type} {xs r : List α} {x : α} {off : Nat} (hx : xs.drop off = x :: r) : xs[off]? = some x ∧ xs.drop (off + 1) = r := by
  constructor
  · have := congrArg (·[0]?) hx
    simpa using this
  · have := congrArg List.tail hx
    simpa using this
theorem drop_getD {ts : List Tch} {t : Tch} {r : List Tch} {off : Nat} (hx : ts.drop off = t :: r) : ts.getD off ([], []) = t ∧ ts.drop (off + 1) = r := by
  obtain ⟨h1, h2⟩ := drop_get hx
  exact ⟨by rw [List.getD_eq_getElem?_getD, h1]; rfl, h2⟩
/-- No call on the caller's own blocks comes (any more). -/
theorem runT_f {xs : List XO} {ts : List Tch} (n : Nat) : ∀ (l : List XO) (off : Nat) (tl : List Tch) (s s' : St), (∀ i, off ≤ i → im i = false) → xs.drop off = l → ts.drop off = tl → s.k = nE → evOpsD md C (k + W8 * off) false l s = some (tl, s') →
    RunT md C k n nE im xs ts (List.range' off l.length) (s.e, s.h) (s'.e, s'.h) ∧ s'.k = nE
  | [], off, tl, s, s', him, hx, ht, hn, hev => by
    simp only [evOpsD, Option.some.injEq, Prod.mk.injEq] at hev
    obtain ⟨_, rfl⟩ := hev
    exact ⟨rfl, hn⟩
  | x :: r, off, tl, s, s', him, hx, ht, hn, hev => by
    obtain ⟨hxo, hxr⟩ := drop_get hx
    have hk : k + W8 * off + W8 = k + W8 * (off + 1) := by rw [Nat.mul_succ]; omega
    simp only [evOpsD, Option.bind_eq_some_iff] at hev
    obtain ⟨b, hb, hev⟩ := hev
    cases b with
    | true =>
      simp only [if_true] at hev
      split at hev
      · rename_i hok
        simp only [Bool.false_or, Bool.and_eq_true, Bool.not_eq_true'] at hok
        obtain ⟨hok, hmd⟩ := hok
        simp only [Option.bind_eq_some_iff, Option.some.injEq, Prod.mk.injEq] at hev
        obtain ⟨⟨d, h', n'⟩, hop, ⟨tr, s2⟩, hrest, hz1, hz2⟩ := hev
        simp only at hz1 hz2 hrest
        subst hz2
        obtain ⟨t1, t2⟩ := drop_getD (ht.trans hz1.symm)
        obtain ⟨ok2, hop2⟩ := evOp_nx hmd hok hop n
        have hn' : n' = s.k := (evOp_locP hmd hok hop).nn
        rw [hk, hmd] at hrest
        simp only [Bool.not_false, Bool.and_true] at hrest
        obtain ⟨r1, r2⟩ := runT_f n r (off + 1) tr _ s2 (fun i hi => him i (by omega)) hxr t2 (by simp only [hn']; exact hn) hrest
        refine ⟨?_, r2⟩
        rw [List.length_cons, List.range'_succ]
        exact ⟨_, ⟨x, d, hxo, ⟨true, hb, .inl ⟨rfl, ok2, t1.symm, by rw [hmd, him off (Nat.le_refl _)], by rw [him off (Nat.le_refl _)]; exact hop2⟩⟩, rfl⟩, r1⟩
      · cases hev
    | false =>
      simp only [Bool.false_eq_true, if_false, Option.bind_eq_some_iff, Option.some.injEq, Prod.mk.injEq] at hev
      obtain ⟨⟨tr, s2⟩, hrest, hz1, hz2⟩ := hev
      simp only at hz1 hz2
      subst hz2
      obtain ⟨t1, t2⟩ := drop_getD (ht.trans hz1.symm)
      rw [hk] at hrest
      obtain ⟨r1, r2⟩ := runT_f n r (off + 1) tr ⟨eputO s.e x.dst .und, s.h, s.k⟩ s2 (fun i hi => him i (by omega)) hxr t2 hn hrest
      refine ⟨?_, r2⟩
      rw [List.length_cons, List.range'_succ]
      exact ⟨(eputO s.e x.dst .und, s.h), ⟨x, .und, hxo, ⟨false, hb, .inr ⟨rfl, t1, rfl, rfl, him off (Nat.le_refl _)⟩⟩, rfl⟩, r1⟩
/-- One may come. -/
theorem runT_of (HF : FrameOk C) {xs : List XO} {ts : List Tch} : ∀ (l : List XO) (off : Nat) (tl : List Tch) (s s' : St), xs.drop off = l → ts.drop off = tl → s.k = n → evOpsD md C (k + W8 * off) true l s = some (tl, s') →
    ∃ im nE, RunT md C k n nE im xs ts (List.range' off l.length) (s.e, s.h) (s'.e, s'.h) ∧ s'.k = nE ∧ n ≤ nE ∧ (∀ i, i < off → im i = false) ∧ (∀ i j, im i = true → im j = true → i = j)
  | [], off, tl, s, s', hx, ht, hn, hev => by
    simp only [evOpsD, Option.some.injEq, Prod.mk.injEq] at hev
    obtain ⟨_, rfl⟩ := hev
    exact ⟨fun _ => false, n, rfl, hn, Nat.le_refl _, fun _ _ => rfl, fun i j hi => by cases hi⟩
  | x :: r, off, tl, s, s', hx, ht, hn, hev => by
    obtain ⟨hxo, hxr⟩ := drop_get hx
    have hk : k + W8 * off + W8 = k + W8 * (off + 1) := by rw [Nat.mul_succ]; omega
    simp only [evOpsD, Option.bind_eq_some_iff] at hev
    obtain ⟨b, hb, hev⟩ := hev
    cases b with
    | true =>
      simp only [if_true] at hev
      split at hev
      · rename_i hok
        simp only [Bool.true_or, Bool.and_true] at hok
        simp only [Option.bind_eq_some_iff, Option.some.injEq, Prod.mk.injEq] at hev
        obtain ⟨⟨d, h', n'⟩, hop, ⟨tr, s2⟩, hrest, hz1, hz2⟩ := hev
        simp only at hz1 hz2 hrest
        subst hz2
        obtain ⟨t1, t2⟩ := drop_getD (ht.trans hz1.symm)
        rw [hn] at hok hop
        cases hmd : isMd md s.e x.op with
        | false =>
          have hn' : n' = n := (evOp_locP hmd hok hop).nn
          rw [hn'] at hop
          rw [hk, hmd] at hrest
          simp only [Bool.not_false, Bool.and_true] at hrest
          obtain ⟨im, nE, r1, r2, r3, r4, r5⟩ := runT_of HF r (off + 1) tr _ s2 hxr t2 hn' hrest
          refine ⟨im, nE, ?_, r2, r3, fun i hi => r4 i (by omega), r5⟩
          rw [List.length_cons, List.range'_succ]
          exact ⟨_, ⟨x, d, hxo, ⟨true, hb, .inl ⟨rfl, hok, t1.symm, by rw [hmd, r4 off (Nat.lt_succ_self _)], by rw [r4 off (Nat.lt_succ_self _)]; exact hop⟩⟩, rfl⟩, r1⟩
        | true =>
          have hle : n ≤ n' := (evOp_loc HF hok hop).le
          rw [hk, hmd] at hrest
          simp only [Bool.not_true, Bool.and_false] at hrest
          have hoff : (fun i => i == off) off = true := by simp
          obtain ⟨r1, r2⟩ := runT_f (im := fun i => i == off) (nE := n') n r (off + 1) tr _ s2 (fun i hi => by simp; omega) hxr t2 rfl hrest
          refine ⟨fun i => i == off, n', ?_, r2, hle, fun i hi => by simp; omega, fun i j hi hj => by simp at hi hj; omega⟩
          rw [List.length_cons, List.range'_succ]
          exact ⟨_, ⟨x, d, hxo, ⟨true, hb, .inl ⟨rfl, hok, t1.symm, by rw [hmd]; exact hoff.symm, by rw [hoff]; exact hop⟩⟩, rfl⟩, r1⟩
      · cases hev
    | false =>
      simp only [Bool.false_eq_true, if_false, Option.bind_eq_some_iff, Option.some.injEq, Prod.mk.injEq] at hev
      obtain ⟨⟨tr, s2⟩, hrest, hz1, hz2⟩ := hev
      simp only at hz1 hz2
      subst hz2
      obtain ⟨t1, t2⟩ := drop_getD (ht.trans hz1.symm)
      rw [hk] at hrest
      obtain ⟨im, nE, r1, r2, r3, r4, r5⟩ := runT_of HF r (off + 1) tr ⟨eputO s.e x.dst .und, s.h, s.k⟩ s2 hxr t2 hn hrest
      refine ⟨im, nE, ?_, r2, r3, fun i hi => r4 i (by omega), r5⟩
      rw [List.length_cons, List.range'_succ]
      exact ⟨(eputO s.e x.dst .und, s.h), ⟨x, .und, hxo, ⟨false, hb, .inr ⟨rfl, t1, rfl, rfl, r4 off (Nat.lt_succ_self _)⟩⟩, rfl⟩, r1⟩
end
end Go.Proofs.Ytbpccdengeakgaa.AE
