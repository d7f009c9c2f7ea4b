/-
  AE, part 18: regions whose order is drawn, over memory.
-/
import Derived.Test.YtbpccdengeakgaaAE17
set_option linter.unusedVariables false
set_option linter.unusedSimpArgs false
namespace Go.Proofs.Ytbpccdengeakgaa.AE
open Go Go.RowKit
theorem Calls.ex {P : Program} {f : FuncId} {args : Array Value} {w : World} {R : Ending → World → Prop} (h : Calls P f args w R) : ∃ e w', R e w' := by
  obtain ⟨e, w', _, hr, _⟩ := h []
  exact ⟨e, w', hr⟩
theorem Oper.wp_ex {P : Program} {o : Oper} {a : Act} {w : World} {K : Act → World → Prop} (h : o.wp P a w K (fun _ _ _ => False)) : ∃ a' w', K a' w' := by
  unfold Oper.wp at h
  generalize (execOp a.eval o).run P w = r at h
  cases r with
  | ok nx w' =>
    cases nx <;> simp only [Oper.upon] at h <;> try exact ⟨_, _, h⟩
    · obtain ⟨e, w'', h⟩ := Calls.ex h
      cases e with
      | returned v => exact ⟨_, _, h⟩
      | panicked c => exact h.elim
      | outgrown => obtain ⟨_, _, h⟩ := h; exact h.elim
    · obtain ⟨v, w'', h, _⟩ := h (Frame.enter P 0 #[] .normal) []
      exact ⟨_, _, h⟩
  | halt x w' => cases x <;> simp only [Oper.upon] at h
section
variable {P : Program} {B : Nat} {w0 w w' : World} {I I' I0 : Nat → Prop} {μ μ' μ0 : Mu} {h h' : Hp} {e : Env} {d d' : D} {v : Value} {k n N : Nat} {C : Calls1} {md : Nat → Bool} {a : Act} {w1 : World} {k0 : Nat} {xs : List XO} {ts : List Tch} {s s1 : ES} {i : Nat} {U : Nat → Prop}

/-- A walk through a region whose operations U are still to come. -/
structure SimU (B : Nat) (w0 : World) (N : Nat) (I0 : Nat → Prop) (μ0 : Mu) (w1 : World) (k0 k n nE : Nat) (im : Nat → Bool) (U : Nat → Prop) (s : ES) (a : Act) (w : World) : Prop where
  ex : ∃ I μ, EnvOk w I μ s.1 a.tmps ∧ Inv B w0 I μ s.2 w ∧ Go1 I0 I μ0 μ w1 w ∧ (∀ l, nE ≤ l → μ l = none) ∧ (∀ l, l < k0 → μ0 l = none → μ l = none) ∧ (∀ b, I b → I0 b ∨ B ≤ b) ∧ (∀ i, U i → ∀ j, j < W8 → μ (k + W8 * i + j) = none) ∧ (∀ i, U i → im i = true → ∀ l, n ≤ l → μ l = none)
  sz : a.tmps.size = N
  df : a.defers = []
  le : k0 ≤ k
  bd : ∀ i, U i → k + W8 * i + W8 ≤ n
  nle : n ≤ nE
variable {nE : Nat} {im : Nat → Bool}
theorem SimU.imp {U' : Nat → Prop} (hs : SimU B w0 N I0 μ0 w1 k0 k n nE im U s a w) (hU : ∀ i, U' i → U i) : SimU B w0 N I0 μ0 w1 k0 k n nE im U' s a w := by
  obtain ⟨⟨I, μ, h1, h2, h3, h4, h5, h6, h7, h8⟩, hz, hd, hl, hb, hn⟩ := hs
  exact ⟨⟨I, μ, h1, h2, h3, h4, h5, h6, fun i hi => h7 i (hU i hi), fun i hi => h8 i (hU i hi)⟩, hz, hd, hl, fun i hi => hb i (hU i hi), hn⟩
theorem w8_apart {i j m : Nat} (hij : j ≠ i) (hm : m < W8) : k + W8 * j + m < k + W8 * i ∨ k + W8 * i + W8 ≤ k + W8 * j + m := by
  have hm : m < 8 := hm
  show k + 8 * j + m < k + 8 * i ∨ k + 8 * i + 8 ≤ k + 8 * j + m
  omega
theorem win_none {i : Nat} (h7 : ∀ j, j < W8 → μ (k + W8 * i + j) = none) (h8 : im i = true → ∀ l, n ≤ l → μ l = none) {l : Nat} (hl : WinI k n im i l = true) : μ l = none := by
  unfold WinI WinM at hl
  split at hl
  · rename_i hi; exact h8 hi l (of_decide_eq_true hl)
  · have := own_iff.1 hl
    have := h7 (l - (k + W8 * i)) (by omega)
    rwa [show k + W8 * i + (l - (k + W8 * i)) = l by omega] at this
theorem win_dis (hu : ∀ i j, im i = true → im j = true → i = j) {i j : Nat} (hij : i ≠ j) (hi : k + W8 * i + W8 ≤ n) (hj : k + W8 * j + W8 ≤ n) (l : Nat) (h1 : WinI k n im i l = true) : ¬ WinI k n im j l = true := by
  intro h2
  unfold WinI WinM at h1 h2
  split at h1
  · rename_i a1
    split at h2
    · rename_i a2; exact hij (hu i j a1 a2)
    · have := own_iff.1 h2; have := of_decide_eq_true h1; omega
  · split at h2
    · have := own_iff.1 h1; have := of_decide_eq_true h2; omega
    · have b1 := own_iff.1 h1
      have b2 := own_iff.1 h2
      have hlt : l - (k + W8 * j) < W8 := by omega
      have := w8_apart (k := k) (Ne.symm hij) hlt
      rw [show k + W8 * j + (l - (k + W8 * j)) = l by omega] at this
      omega
theorem step_ok (HC : CallsOk P C) (hu : ∀ i j, im i = true → im j = true → i = j) {dr : Bool} {ops : Array Oper} {o : Oper} {x : XO} (ho : ops[i]? = some o) (hc : cOper P dr ops N o = some x) (hx : xs[i]? = some x) (hst : Step md C k n nE im xs ts i s s1) (hs : SimU B w0 N I0 μ0 w1 k0 k n nE im U s a w) (hU : U i)
    {K : Act → World → Prop} {Q : Exit → Act → World → Prop} (hK : ∀ a' w', SimU B w0 N I0 μ0 w1 k0 k n nE im (fun j => U j ∧ j ≠ i) s1 a' w' → K a' w') : if Region.wanted o (yielded ops a.tmps) then o.wp P a w K Q else K (a.put o.dst undef) w := by
  obtain ⟨x', d, hx', ⟨b, hb, hE⟩, hs1⟩ := hst
  rw [hx] at hx'; obtain rfl := Option.some.inj hx'
  simp only [cOper, Option.bind_eq_some_iff] at hc
  obtain ⟨xo, hxo, g, hg, hc⟩ := hc
  have w8 : W8 = 8 := rfl
  split at hc
  · rename_i hdst
    obtain rfl := Option.some.inj hc
    obtain ⟨⟨I, μ, h1, h2, h3, h4, h5, h6, h7, h8⟩, hz, hd, hl, hbd, hnl⟩ := hs
    have hwant := wanted_ok h1 hg hb
    have hdst' : dstOk a.tmps.size o.dst = true := by rw [hz]; exact hdst
    rcases hE with ⟨rfl, hok, _, hmd, hop⟩ | ⟨rfl, _, rfl, hh, _⟩
    · rw [if_pos hwant]
      simp only at hop hs1 hok hmd
      have hbi := hbd i hU
      cases him : im i with
      | true =>
        rw [him] at hop
        simp only [if_true] at hop
        refine evOp_ok HC h2 h1.ops hxo hop (h7 i hU) (h8 i hU him) hbi ?_
        intro v w' I' μ' r1 i1 g1 nm1 nm2 nm3 nb
        refine hK _ _ ⟨⟨I', μ', ?_, i1, h3.trans g1, nm2, fun l hl0 hl1 => ?_, fun b hb => ?_, fun j hj m hm => ?_, fun j hj hji => absurd (hu j i hji him) hj.2⟩, by rw [put_size]; exact hz, by rw [put_defers]; exact hd, hl, fun j hj => hbd j hj.1, hnl⟩
        · rw [hs1]; exact (h1.go g1).put r1 hdst'
        · exact nm1 l (h5 l hl0 hl1) (.inl (by omega)) (by omega)
        · rcases nb b hb with hb | hb
          · exact h6 b hb
          · exact .inr hb
        · exact nm1 _ (h7 j hj.1 m hm) (w8_apart hj.2 hm) (by have := hbd j hj.1; omega)
      | false =>
        rw [him] at hop hmd
        obtain ⟨_, hop⟩ := evOp_nx hmd hok hop nE
        refine evOp_ok HC h2 h1.ops hxo hop (h7 i hU) h4 (by omega) ?_
        intro v w' I' μ' r1 i1 g1 nm1 nm2 nm3 nb
        refine hK _ _ ⟨⟨I', μ', ?_, i1, h3.trans g1, nm2, fun l hl0 hl1 => ?_, fun b hb => ?_, fun j hj m hm => ?_, fun j hj hji l hln => ?_⟩, by rw [put_size]; exact hz, by rw [put_defers]; exact hd, hl, fun j hj => hbd j hj.1, hnl⟩
        · rw [hs1]; exact (h1.go g1).put r1 hdst'
        · exact nm1 l (h5 l hl0 hl1) (.inl (by omega)) (by omega)
        · rcases nb b hb with hb | hb
          · exact h6 b hb
          · exact .inr hb
        · exact nm1 _ (h7 j hj.1 m hm) (w8_apart hj.2 hm) (by have := hbd j hj.1; omega)
        · rcases Nat.lt_or_ge l nE with hlt | hge
          · exact nm1 l (h8 j hj.1 hji l hln) (.inr (by omega)) hlt
          · exact nm2 l hge
    · rw [if_neg (by rw [hwant]; simp)]
      simp only at hs1
      refine hK _ _ ⟨⟨I, μ, ?_, by rw [hh]; exact h2, h3, h4, h5, h6, fun j hj m hm => h7 j hj.1 m hm, fun j hj => h8 j hj.1⟩, by rw [put_size]; exact hz, by rw [put_defers]; exact hd, hl, fun j hj => hbd j hj.1, hnl⟩
      rw [hs1]
      exact h1.put (.im .und) hdst'
  · cases hc
/-- Data that holds names holds names that are given. -/
theorem nm_some (hr : Rp w I μ d v) {l : Nat} (hl : l ∈ d.nm) : μ l ≠ none := by
  cases hr with
  | im h => cases h <;> simp [D.nm] at hl
  | ptr h _ => simp only [D.nm, List.mem_singleton] at hl; subst hl; rw [h]; simp
  | osl h _ => simp only [D.nm, List.mem_singleton] at hl; subst hl; rw [h]; simp
  | mpr h _ => simp only [D.nm, List.mem_singleton] at hl; subst hl; rw [h]; simp
  | agg => simp [D.nm] at hl
  | tup => simp [D.nm] at hl
  | fn => simp [D.nm] at hl
theorem x_some {ta : Array Value} (he : EnvOk w I μ e ta) {x : X} (hx : x.ok = true) {l : Nat} (hl : l ∈ (x.ev e).nm) : μ l ≠ none := by
  cases x with
  | t j => exact nm_some (he j) hl
  | c d =>
    simp only [X.ok] at hx
    simp only [X.ev] at hl
    cases d <;> simp [D.nm] at hl <;> simp [D.im] at hx
/-- What data reaches in h1 is given, when h1 is h but for T2 and new names, and T2 is not reached. -/
theorem nmD_some (hi : Inv B w0 I μ h w) {h1 : Hp} {T2 : List Nat} (far : ∀ l, l ∉ T2 → μ l ≠ none → h1 l = h l) : ∀ (n : Nat) (d : D) (v : Value), Rp w I μ d v → (∀ l ∈ nmD n h1 d, l ∉ T2) → ∀ l ∈ nmD n h1 d, μ l ≠ none
  | 0, d, v, hr, hT, l, hl => by cases hl
  | n + 1, d, v, hr, hT, l, hl => by
    have lst : ∀ (cs : List D) (vs : List Value), RpL w I μ cs vs → (∀ l ∈ cs.flatMap (nmD n h1), l ∉ T2) → l ∈ cs.flatMap (nmD n h1) → μ l ≠ none := by
      intro cs vs hv hT hl
      obtain ⟨c, hc, hl⟩ := List.mem_flatMap.1 hl
      obtain ⟨j, hj⟩ := List.getElem?_of_mem hc
      obtain ⟨u, _, hu⟩ := hv.get hj
      exact nmD_some hi far n c u hu (fun l hl => hT l (List.mem_flatMap.2 ⟨c, hc, hl⟩)) l hl
    cases hr with
    | im hm =>
      cases hm with
      | agg vs hs hv => exact lst _ vs ⟨hs, fun j d v a b => .im (hv j d v a b)⟩ hT hl
      | fn vs hs hv => exact lst _ vs ⟨hs, fun j d v a b => .im (hv j d v a b)⟩ hT hl
      | _ => simp [nmD] at hl
    | agg vs hs hv => exact lst _ vs ⟨hs, hv⟩ hT hl
    | fn vs hs hv => exact lst _ vs ⟨hs, hv⟩ hT hl
    | tup => simp [nmD] at hl
    | osl hm _ => simp only [nmD, List.mem_singleton] at hl; subst hl; rw [hm]; simp
    | mpr hm _ => simp only [nmD, List.mem_singleton] at hl; subst hl; rw [hm]; simp
    | ptr hm hb =>
      rename_i j i o b p
      have hj : μ j ≠ none := by rw [hm]; simp
      simp only [nmD] at hl hT
      rcases List.mem_cons.1 hl with rfl | hl
      · exact hj
      · have hj1 := far j (hT j List.mem_cons_self) hj
        rw [hj1] at hl hT
        have hob := hi.ob j
        cases ho : h j with
        | var cs own =>
          rw [ho] at hl hT hob
          obtain ⟨p', b', vs, ty, _, _, _, _, _, hv, _⟩ := hob
          exact lst cs vs hv (fun l hl => hT l (List.mem_cons_of_mem _ hl)) hl
        | _ => rw [ho] at hl; cases hl
theorem nmL_some (hi : Inv B w0 I μ h w) {h1 : Hp} {T2 : List Nat} (far : ∀ l, l ∉ T2 → μ l ≠ none → h1 l = h l) {A : List D} (hA : ∀ d ∈ A, (∃ v, Rp w I μ d v) ∨ d.im = true) (hT : ∀ l ∈ nmL h1 A, l ∉ T2) {l : Nat} (hl : l ∈ nmL h1 A) : μ l ≠ none := by
  unfold nmL at hl hT
  obtain ⟨d, hd, hl⟩ := List.mem_flatMap.1 hl
  rcases hA d hd with ⟨v, hv⟩ | him
  · exact nmD_some hi far 9 d v hv (fun l hl => hT l (List.mem_flatMap.2 ⟨d, hd, hl⟩)) l hl
  · cases d <;> first | (cases him; done) | (cases hl; done) | skip
    rename_i f caps
    simp only [D.im, List.isEmpty_iff] at him
    subst him
    cases hl
theorem touch_some {ta : Array Value} (hi : Inv B w0 I μ h w) (he : EnvOk w I μ e ta) {o : XOp} (ho : o.xs.all X.ok = true) {h1 : Hp} {T2 : List Nat} (far : ∀ l, l ∉ T2 → μ l ≠ none → h1 l = h l) (hT : ∀ l, (l ∈ (touch md e h1 o).1 ∨ l ∈ (touch md e h1 o).2) → l ∉ T2) {l : Nat} (hl : l ∈ (touch md e h1 o).1 ∨ l ∈ (touch md e h1 o).2) : μ l ≠ none := by
  have key : ∀ x ∈ o.xs, l ∈ (x.ev e).nm → μ l ≠ none := fun x hx => x_some he (List.all_eq_true.1 ho x hx)
  have arg : ∀ x ∈ o.xs, (∃ v, Rp w I μ (x.ev e) v) ∨ (x.ev e).im = true := fun x hx => by
    cases x with
    | t j => exact .inl ⟨_, he j⟩
    | c d => exact .inr (List.all_eq_true.1 ho _ hx)
  have call : ∀ (f : Nat) (A : List D), (∀ d ∈ A, (∃ v, Rp w I μ d v) ∨ d.im = true) → touch md e h1 o = tchC md h1 f A → μ l ≠ none := by
    intro f A hA ht
    rw [ht] at hl hT
    unfold tchC at hl hT
    have hm : l ∈ nmL h1 A := by
      split at hl
      · rcases hl with hl | hl
        · exact hl
        · cases hl
      · rcases hl with hl | hl
        · cases hl
        · exact hl
    refine nmL_some hi far hA (fun j hj => hT j ?_) hm
    split
    · exact .inl hj
    · exact .inr hj
  cases o <;> try (simp only [touch, List.not_mem_nil, or_false, false_or, or_self] at hl)
  case load n ag x => exact key x (by simp [XOp.xs]) hl
  case store n x y => exact key x (by simp [XOp.xs]) hl
  case iaS sz x i => exact key x (by simp [XOp.xs]) hl
  case len st x => exact key x (by simp [XOp.xs]) hl
  case bts x => exact key x (by simp [XOp.xs]) hl
  case app e' sz b x y =>
    rcases hl with hl | hl
    · exact key y (by simp [XOp.xs]) hl
    · exact key x (by simp [XOp.xs]) hl
  case bsl t sz z m ps =>
    refine nmL_some hi far (A := ps.map fun p => p.2.ev e) (fun d hd => ?_) (fun j hj => hT j (.inr (by simp only [touch]; exact hj))) hl
    obtain ⟨p, hp, rfl⟩ := List.mem_map.1 hd
    exact arg p.2 (by simp only [XOp.xs, List.mem_map]; exact ⟨p, hp, rfl⟩)
  case bsf t sz z m ps =>
    refine nmL_some hi far (A := ps.map fun p => p.2.ev e) (fun d hd => ?_) (fun j hj => hT j (.inr (by simp only [touch]; exact hj))) hl
    obtain ⟨p, hp, rfl⟩ := List.mem_map.1 hd
    exact arg p.2 (by simp only [XOp.xs, List.mem_map]; exact ⟨p, hp, rfl⟩)
  case call f ys =>
    refine call f (ys.map (X.ev e)) (fun d hd => ?_) rfl
    obtain ⟨x, hx, rfl⟩ := List.mem_map.1 hd
    exact arg x (by simpa [XOp.xs] using hx)
  case callv x ys =>
    cases hx : x.ev e with
    | fn f caps =>
      refine call f (ys.map (X.ev e) ++ caps) (fun d hd => ?_) (by simp only [touch, hx])
      rcases List.mem_append.1 hd with hd | hd
      · obtain ⟨y, hy, rfl⟩ := List.mem_map.1 hd
        exact arg y (by simp [XOp.xs, hy])
      · cases x with
        | t j =>
          have hr := he j
          simp only [X.ev] at hx
          rw [hx] at hr
          obtain ⟨vs, _, hlen, hcap⟩ := hr.fn_inv
          obtain ⟨m, hm⟩ := List.getElem?_of_mem hd
          have hlt : m < vs.length := by rw [← hlen]; exact (List.getElem?_eq_some_iff.1 hm).1
          exact .inl ⟨_, hcap m d _ hm (List.getElem?_eq_getElem hlt)⟩
        | c d' =>
          have hok := List.all_eq_true.1 ho (.c d') (by simp [XOp.xs])
          simp only [X.ev] at hx
          subst hx
          simp only [X.ok, D.im, List.isEmpty_iff] at hok
          subst hok
          cases hd
    | _ => rw [hx] at hl; simp at hl
theorem step_names {x : XO} (hx : xs[i]? = some x) (hok : x.op.xs.all X.ok = true) (hst : Step md C k n nE im xs ts i s s1) (hs : SimU B w0 N I0 μ0 w1 k0 k n nE im U s a w) {j : Nat} (hj : U j) : NoN (ts.getD i ([], [])) (WinI k n im j) := by
  obtain ⟨x', d, hx', ⟨b, hb, hE⟩, hs1⟩ := hst
  rw [hx] at hx'; obtain rfl := Option.some.inj hx'
  obtain ⟨⟨I, μ, h1, h2, h3, h4, h5, h6, h7, h8⟩, _⟩ := hs
  intro l hl hr
  rcases hE with ⟨_, _, ht, _⟩ | ⟨_, ht, _, _⟩
  · rw [← ht] at hl
    exact touch_some (T2 := []) h2 h1 hok (fun _ _ _ => rfl) (fun _ _ => List.not_mem_nil) hl (win_none (h7 j hj) (h8 j hj) hr)
  · rw [ht] at hl; simp at hl
theorem back_names (HF : FrameOk C) {j : Nat} {x y : XO} (hx : xs[i]? = some x) (hy : xs[j]? = some y) (hxy : x.apart y = true) (hT : apartT (ts.getD i ([], [])) (ts.getD j ([], [])) = true) (hok : y.op.xs.all X.ok = true) {s2 : ES} (h1 : Step md C k n nE im xs ts i s s1) (h2 : Step md C k n nE im xs ts j s1 s2)
    (hs : SimU B w0 N I0 μ0 w1 k0 k n nE im U s a w) (hi : U i) : NoN (ts.getD j ([], [])) (WinI k n im i) := by
  obtain ⟨x', d, hx', hEx, hs1⟩ := h1
  rw [hx] at hx'; obtain rfl := Option.some.inj hx'
  obtain ⟨y', d2, hy', ⟨b, hb, hE⟩, _⟩ := h2
  rw [hy] at hy'; obtain rfl := Option.some.inj hy'
  obtain ⟨p1, _, _⟩ := apart_spec hxy
  have he : ∀ t ∈ y.rd, s1.1 t = s.1 t := by rw [hs1]; exact eputO_rd p1 d
  obtain ⟨e1, e2⟩ := rd_ev he
  obtain ⟨⟨I, μ, f1, f2, f3, f4, f5, f6, f7, f8⟩, _⟩ := hs
  intro l hl hr
  rcases hE with ⟨_, _, ht, _⟩ | ⟨_, ht, _⟩
  · rw [touch_congr e1] at ht
    have q1 := (apartT_spec hT).1
    refine touch_some (T2 := (ts.getD i ([], [])).2) (h1 := s1.2) f2 f1 hok (fun l h3 h4 => hEx.far HF l h3 (fun h5 => h4 (win_none (f7 i hi) (f8 i hi) h5))) (fun l h3 h4 => ?_) (by rw [ht]; exact hl) (win_none (f7 i hi) (f8 i hi) hr)
    rw [ht] at h3
    rcases h3 with h3 | h3
    · exact (q1 l h4).1 h3
    · exact (q1 l h4).2 h3
  · rw [ht] at hl; simp at hl

/-- What a bubble needs of the region. -/
structure RegOk (P : Program) (N : Nat) (ops : Array Oper) (xs : List XO) (ts : List Tch) : Prop where
  cop : ∀ (i : Nat) (x : XO), xs[i]? = some x → ∃ o, ops[i]? = some o ∧ cOper P true ops N o = some x
  len : xs.length = ops.size
  ok : ∀ (i : Nat) (x : XO), xs[i]? = some x → x.op.xs.all X.ok = true
/-- These two may change places. -/
def Free2 (xs : List XO) (ts : List Tch) (i j : Nat) : Prop := ∃ x y, xs[i]? = some x ∧ xs[j]? = some y ∧ x.apart y = true ∧ apartT (ts.getD i ([], [])) (ts.getD j ([], [])) = true
theorem bubble (HC : CallsOk P C) (HF : FrameOk C) (hu : ∀ i j, im i = true → im j = true → i = j) {ops : Array Oper} (HR : RegOk P N ops xs ts) {j : Nat} {L2 : List Nat} {s' : ES} : ∀ (L1 : List Nat) (U : Nat → Prop) (s : ES) (a : Act) (w : World), SimU B w0 N I0 μ0 w1 k0 k n nE im U s a w → (∀ i ∈ L1, U i) → U j → L1.Nodup → (∀ i ∈ L1, i ≠ j ∧ Free2 xs ts i j) →
    RunT md C k n nE im xs ts (L1 ++ j :: L2) s s' → ∃ s1, Step md C k n nE im xs ts j s s1 ∧ RunT md C k n nE im xs ts (L1 ++ L2) s1 s'
  | [], U, s, a, w, hs, hU, hj, hnd, hf, hr => hr
  | i :: L1, U, s, a, w, hs, hU, hj, hnd, hf, hr => by
    obtain ⟨sy, hsy, hr⟩ := hr
    obtain ⟨hne, x, y, hx, hy, hxy, hT⟩ := hf i (by simp)
    obtain ⟨o, ho, hco⟩ := HR.cop i x hx
    have hUi : U i := hU i (by simp)
    rw [List.nodup_cons] at hnd
    have hex : ∃ a' w', SimU B w0 N I0 μ0 w1 k0 k n nE im (fun m => U m ∧ m ≠ i) sy a' w' := by
      have hw := step_ok HC hu (Q := fun _ _ _ => False) ho hco hx hsy hs hUi (K := fun a' w' => SimU B w0 N I0 μ0 w1 k0 k n nE im (fun m => U m ∧ m ≠ i) sy a' w') (fun a' w' h => h)
      split at hw
      · exact Oper.wp_ex hw
      · exact ⟨_, _, hw⟩
    obtain ⟨a', w', hs'⟩ := hex
    obtain ⟨sz, h1, h2⟩ := bubble HC HF hu HR L1 _ sy a' w' hs' (fun m hm => ⟨hU m (by simp [hm]), fun he => hnd.1 (he ▸ hm)⟩) ⟨hj, Ne.symm hne⟩ hnd.2 (fun m hm => hf m (by simp [hm])) hr
    obtain ⟨s1, r1, r2⟩ := step_comm HF (win_dis hu hne (hs.bd i hUi) (hs.bd j hj)) hx hy hxy hT (step_names hx (HR.ok i x hx) hsy hs hj) (back_names HF hx hy hxy hT (HR.ok j y hy) hsy h1 hs hUi) hsy h1
    exact ⟨s1, r1, ⟨sz, r2, h2⟩⟩
end
end Go.Proofs.Ytbpccdengeakgaa.AE
