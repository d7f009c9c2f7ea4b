/-
  AE, part 18: regions whose order is drawn, over memory.
-/
import Derived.Test.YtoemdhcnfmkkaaaAE17
set_option linter.unusedVariables false
set_option linter.unusedSimpArgs false
namespace Go.Proofs.Ytoemdhcnfmkkaaa.AE
open Go Go.RowKit
theorem Calls.ex {P : Program} {f : FuncId} {args : Array Value} {w : World} {R : Ending → World → Prop} (h : Calls P f args w R) : ∃ e w', R e w' := by
  obtain ⟨e, w', _, hr, _⟩ := h []
  exact ⟨e, w', hr⟩
theorem Oper.wp_ex {P : Program} {o : Oper} {a : Act} {w : World} {K : Act → World → Prop} (h : o.wp P a w K (fun _ _ _ => False)) : ∃ a' w', K a' w' := by
  unfold Oper.wp at h
  generalize (execOp a.eval o).run P w = r at h
  cases r with
  | ok nx w' =>
    cases nx <;> simp only [Oper.upon] at h <;> try exact ⟨_, _, h⟩
    · obtain ⟨e, w'', h⟩ := Calls.ex h
      cases e with
      | returned v => exact ⟨_, _, h⟩
      | panicked c => exact h.elim
      | outgrown => obtain ⟨_, _, h⟩ := h; exact h.elim
    · obtain ⟨v, w'', h, _⟩ := h (Frame.enter P 0 #[] .normal) []
      exact ⟨_, _, h⟩
  | halt x w' => cases x <;> simp only [Oper.upon] at h
section
variable {P : Program} {B : Nat} {w0 w w' : World} {I I' I0 : Nat → Prop} {μ μ' μ0 : Mu} {h h' : Hp} {e : Env} {d d' : D} {v : Value} {k n N : Nat} {C : Calls1} {md : Nat → Bool} {a : Act} {w1 : World} {k0 : Nat} {xs : List XO} {ts : List Tch} {s s1 : ES} {i : Nat} {U : Nat → Prop}

/-- A walk through a region whose operations U are still to come. -/
structure SimU (B : Nat) (w0 : World) (N : Nat) (I0 : Nat → Prop) (μ0 : Mu) (w1 : World) (k0 k n : Nat) (U : Nat → Prop) (s : ES) (a : Act) (w : World) : Prop where
  ex : ∃ I μ, EnvOk w I μ s.1 a.tmps ∧ Inv B w0 I μ s.2 w ∧ Go1 I0 I μ0 μ w1 w ∧ (∀ l, n ≤ l → μ l = none) ∧ (∀ l, l < k0 → μ0 l = none → μ l = none) ∧ (∀ b, I b → I0 b ∨ B ≤ b) ∧ (∀ i, U i → ∀ j, j < W8 → μ (k + W8 * i + j) = none)
  sz : a.tmps.size = N
  df : a.defers = []
  le : k0 ≤ k
  bd : ∀ i, U i → k + W8 * i + W8 ≤ n
theorem SimU.imp {U' : Nat → Prop} (hs : SimU B w0 N I0 μ0 w1 k0 k n U s a w) (hU : ∀ i, U' i → U i) : SimU B w0 N I0 μ0 w1 k0 k n U' s a w := by
  obtain ⟨⟨I, μ, h1, h2, h3, h4, h5, h6, h7⟩, hz, hd, hl, hb⟩ := hs
  exact ⟨⟨I, μ, h1, h2, h3, h4, h5, h6, fun i hi => h7 i (hU i hi)⟩, hz, hd, hl, fun i hi => hb i (hU i hi)⟩
theorem w8_apart {i j m : Nat} (hij : j ≠ i) (hm : m < W8) : k + W8 * j + m < k + W8 * i ∨ k + W8 * i + W8 ≤ k + W8 * j + m := by
  have hm : m < 8 := hm
  show k + 8 * j + m < k + 8 * i ∨ k + 8 * i + 8 ≤ k + 8 * j + m
  omega
theorem step_ok (HC : CallsOk P C) {ops : Array Oper} {o : Oper} {x : XO} (ho : ops[i]? = some o) (hc : cOper P ops N o = some x) (hx : xs[i]? = some x) (hst : Step md C k n xs ts i s s1) (hs : SimU B w0 N I0 μ0 w1 k0 k n U s a w) (hU : U i)
    {K : Act → World → Prop} {Q : Exit → Act → World → Prop} (hK : ∀ a' w', SimU B w0 N I0 μ0 w1 k0 k n (fun j => U j ∧ j ≠ i) s1 a' w' → K a' w') : if Region.wanted o (yielded ops a.tmps) then o.wp P a w K Q else K (a.put o.dst undef) w := by
  obtain ⟨x', d, hx', ⟨b, hb, hE⟩, hs1⟩ := hst
  rw [hx] at hx'; obtain rfl := Option.some.inj hx'
  simp only [cOper, Option.bind_eq_some_iff] at hc
  obtain ⟨xo, hxo, g, hg, hc⟩ := hc
  split at hc
  · rename_i hdst
    obtain rfl := Option.some.inj hc
    obtain ⟨⟨I, μ, h1, h2, h3, h4, h5, h6, h7⟩, hz, hd, hl, hbd⟩ := hs
    have hwant := wanted_ok h1 hg hb
    have hdst' : dstOk a.tmps.size o.dst = true := by rw [hz]; exact hdst
    rcases hE with ⟨rfl, hok, _, hop⟩ | ⟨rfl, _, rfl, hh⟩
    · rw [if_pos hwant]
      simp only at hop hs1
      refine evOp_ok HC h2 h1.ops hxo hop (h7 i hU) h4 (hbd i hU) ?_
      intro v w' I' μ' r1 i1 g1 nm1 nm2 nm3 nb
      refine hK _ _ ⟨⟨I', μ', ?_, i1, h3.trans g1, nm2, fun l hl0 hl1 => ?_, fun b hb => ?_, fun j hj m hm => ?_⟩, by rw [put_size]; exact hz, by rw [put_defers]; exact hd, hl, fun j hj => hbd j hj.1⟩
      · rw [hs1]; exact (h1.go g1).put r1 hdst'
      · have := hbd i hU
        exact nm1 l (h5 l hl0 hl1) (.inl (by omega)) (by have w8 : W8 = 8 := rfl; omega)
      · rcases nb b hb with hb | hb
        · exact h6 b hb
        · exact .inr hb
      · exact nm1 _ (h7 j hj.1 m hm) (w8_apart hj.2 hm) (by have := hbd j hj.1; omega)
    · rw [if_neg (by rw [hwant]; simp)]
      simp only at hs1
      refine hK _ _ ⟨⟨I, μ, ?_, by rw [hh]; exact h2, h3, h4, h5, h6, fun j hj m hm => h7 j hj.1 m hm⟩, by rw [put_size]; exact hz, by rw [put_defers]; exact hd, hl, fun j hj => hbd j hj.1⟩
      rw [hs1]
      exact h1.put (.im .und) hdst'
  · cases hc
/-- Data that holds names holds names that are given. -/
theorem nm_some (hr : Rp w I μ d v) {l : Nat} (hl : l ∈ d.nm) : μ l ≠ none := by
  cases hr with
  | im h => cases h <;> simp [D.nm] at hl
  | ptr h _ => simp only [D.nm, List.mem_singleton] at hl; subst hl; rw [h]; simp
  | osl h _ => simp only [D.nm, List.mem_singleton] at hl; subst hl; rw [h]; simp
  | mpr h _ => simp only [D.nm, List.mem_singleton] at hl; subst hl; rw [h]; simp
  | agg => simp [D.nm] at hl
  | tup => simp [D.nm] at hl
  | fn => simp [D.nm] at hl
theorem x_some {ta : Array Value} (he : EnvOk w I μ e ta) {x : X} (hx : x.ok = true) {l : Nat} (hl : l ∈ (x.ev e).nm) : μ l ≠ none := by
  cases x with
  | t j => exact nm_some (he j) hl
  | c d =>
    simp only [X.ok] at hx
    simp only [X.ev] at hl
    cases d <;> simp [D.nm] at hl <;> simp [D.im] at hx
theorem touch_some {ta : Array Value} (he : EnvOk w I μ e ta) {o : XOp} (ho : o.xs.all X.ok = true) {l : Nat} (hl : l ∈ (touch e o).1 ∨ l ∈ (touch e o).2) : μ l ≠ none := by
  have key : ∀ x ∈ o.xs, l ∈ (x.ev e).nm → μ l ≠ none := fun x hx => x_some he (List.all_eq_true.1 ho x hx)
  cases o <;> simp only [touch, List.not_mem_nil, or_false, false_or, or_self] at hl
  case load n ag x => exact key x (by simp [XOp.xs]) hl
  case store n x y => exact key x (by simp [XOp.xs]) hl
  case iaS sz x i => exact key x (by simp [XOp.xs]) hl
  case len st x => exact key x (by simp [XOp.xs]) hl
  case app e' sz b x y =>
    rcases hl with hl | hl
    · exact key y (by simp [XOp.xs]) hl
    · exact key x (by simp [XOp.xs]) hl
  case call f ys =>
    obtain ⟨d, hd, hl⟩ := List.mem_flatMap.1 hl
    obtain ⟨x, hx, rfl⟩ := List.mem_map.1 hd
    exact key x (by simpa [XOp.xs] using hx) hl
  case callv x ys =>
    cases hx : x.ev e with
    | fn f caps =>
      rw [hx] at hl
      simp only [List.not_mem_nil, or_false] at hl
      obtain ⟨d, hd, hl⟩ := List.mem_flatMap.1 hl
      rcases List.mem_append.1 hd with hd | hd
      · obtain ⟨y, hy, rfl⟩ := List.mem_map.1 hd
        exact key y (by simp [XOp.xs, hy]) hl
      · cases x with
        | t j =>
          have hr := he j
          simp only [X.ev] at hx
          rw [hx] at hr
          obtain ⟨vs, _, hlen, hcap⟩ := hr.fn_inv
          obtain ⟨m, hm⟩ := List.getElem?_of_mem hd
          have hlt : m < vs.length := by rw [← hlen]; exact (List.getElem?_eq_some_iff.1 hm).1
          exact nm_some (hcap m d _ hm (List.getElem?_eq_getElem hlt)) hl
        | c d' =>
          have hok := List.all_eq_true.1 ho (.c d') (by simp [XOp.xs])
          simp only [X.ev] at hx
          subst hx
          simp only [X.ok, D.im, List.isEmpty_iff] at hok
          subst hok
          cases hd
    | _ => rw [hx] at hl; simp at hl
theorem step_names {x : XO} (hx : xs[i]? = some x) (hok : x.op.xs.all X.ok = true) (hst : Step md C k n xs ts i s s1) (hs : SimU B w0 N I0 μ0 w1 k0 k n U s a w) {j : Nat} (hj : U j) : NoN (ts.getD i ([], [])) (k + W8 * j) := by
  obtain ⟨x', d, hx', ⟨b, hb, hE⟩, hs1⟩ := hst
  rw [hx] at hx'; obtain rfl := Option.some.inj hx'
  obtain ⟨⟨I, μ, h1, h2, h3, h4, h5, h6, h7⟩, _⟩ := hs
  intro l hl hr
  rcases hE with ⟨_, _, ht, _⟩ | ⟨_, ht, _, _⟩
  · rw [← ht] at hl
    refine touch_some h1 hok hl ?_
    have := h7 j hj (l - (k + W8 * j)) (by omega)
    rwa [show k + W8 * j + (l - (k + W8 * j)) = l by omega] at this
  · rw [ht] at hl; simp at hl
/-- The touch of one that stands apart from the one before is as it was. -/
theorem Step.back {j : Nat} {x y : XO} (hx : xs[i]? = some x) (hy : xs[j]? = some y) (hxy : x.apart y = true) {s2 : ES} (h1 : Step md C k n xs ts i s s1) (h2 : Step md C k n xs ts j s1 s2) :
    (∃ b, wantedD s.1 y.g = some b ∧ ((b = true ∧ touch s.1 y.op = ts.getD j ([], [])) ∨ ts.getD j ([], []) = ([], []))) := by
  obtain ⟨x', d, hx', _, hs1⟩ := h1
  rw [hx] at hx'; obtain rfl := Option.some.inj hx'
  obtain ⟨y', d2, hy', ⟨b, hb, hE⟩, _⟩ := h2
  rw [hy] at hy'; obtain rfl := Option.some.inj hy'
  obtain ⟨p1, _, _⟩ := apart_spec hxy
  have he : ∀ t ∈ y.rd, s1.1 t = s.1 t := by rw [hs1]; exact eputO_rd p1 d
  obtain ⟨e1, e2⟩ := rd_ev he
  refine ⟨b, by rw [← e2]; exact hb, ?_⟩
  rcases hE with ⟨hb1, _, ht, _⟩ | ⟨_, ht, _, _⟩
  · exact .inl ⟨hb1, by rw [← touch_congr e1]; exact ht⟩
  · exact .inr ht
theorem back_names {j : Nat} {x y : XO} (hx : xs[i]? = some x) (hy : xs[j]? = some y) (hxy : x.apart y = true) (hok : y.op.xs.all X.ok = true) {s2 : ES} (h1 : Step md C k n xs ts i s s1) (h2 : Step md C k n xs ts j s1 s2)
    (hs : SimU B w0 N I0 μ0 w1 k0 k n U s a w) (hi : U i) : NoN (ts.getD j ([], [])) (k + W8 * i) := by
  obtain ⟨b, hb, ht⟩ := Step.back hx hy hxy h1 h2
  obtain ⟨⟨I, μ, e1, h2, h3, h4, h5, h6, h7⟩, _⟩ := hs
  intro l hl hr
  rcases ht with ⟨_, ht⟩ | ht
  · rw [← ht] at hl
    refine touch_some e1 hok hl ?_
    have := h7 i hi (l - (k + W8 * i)) (by omega)
    rwa [show k + W8 * i + (l - (k + W8 * i)) = l by omega] at this
  · rw [ht] at hl; simp at hl

/-- What a bubble needs of the region. -/
structure RegOk (P : Program) (N : Nat) (ops : Array Oper) (xs : List XO) (ts : List Tch) : Prop where
  cop : ∀ (i : Nat) (x : XO), xs[i]? = some x → ∃ o, ops[i]? = some o ∧ cOper P ops N o = some x
  len : xs.length = ops.size
  ok : ∀ (i : Nat) (x : XO), xs[i]? = some x → x.op.xs.all X.ok = true
/-- These two may change places. -/
def Free2 (xs : List XO) (ts : List Tch) (i j : Nat) : Prop := ∃ x y, xs[i]? = some x ∧ xs[j]? = some y ∧ x.apart y = true ∧ apartT (ts.getD i ([], [])) (ts.getD j ([], [])) = true
theorem bubble (HC : CallsOk P C) {ops : Array Oper} (HR : RegOk P N ops xs ts) {j : Nat} {L2 : List Nat} {s' : ES} : ∀ (L1 : List Nat) (U : Nat → Prop) (s : ES) (a : Act) (w : World), SimU B w0 N I0 μ0 w1 k0 k n U s a w → (∀ i ∈ L1, U i) → U j → L1.Nodup → (∀ i ∈ L1, i ≠ j ∧ Free2 xs ts i j) →
    RunT md C k n xs ts (L1 ++ j :: L2) s s' → ∃ s1, Step md C k n xs ts j s s1 ∧ RunT md C k n xs ts (L1 ++ L2) s1 s'
  | [], U, s, a, w, hs, hU, hj, hnd, hf, hr => hr
  | i :: L1, U, s, a, w, hs, hU, hj, hnd, hf, hr => by
    obtain ⟨sy, hsy, hr⟩ := hr
    obtain ⟨hne, x, y, hx, hy, hxy, hT⟩ := hf i (by simp)
    obtain ⟨o, ho, hco⟩ := HR.cop i x hx
    have hUi : U i := hU i (by simp)
    rw [List.nodup_cons] at hnd
    have hex : ∃ a' w', SimU B w0 N I0 μ0 w1 k0 k n (fun m => U m ∧ m ≠ i) sy a' w' := by
      have hw := step_ok HC (Q := fun _ _ _ => False) ho hco hx hsy hs hUi (K := fun a' w' => SimU B w0 N I0 μ0 w1 k0 k n (fun m => U m ∧ m ≠ i) sy a' w') (fun a' w' h => h)
      split at hw
      · exact Oper.wp_ex hw
      · exact ⟨_, _, hw⟩
    obtain ⟨a', w', hs'⟩ := hex
    obtain ⟨sz, h1, h2⟩ := bubble HC HR L1 _ sy a' w' hs' (fun m hm => ⟨hU m (by simp [hm]), fun he => hnd.1 (he ▸ hm)⟩) ⟨hj, Ne.symm hne⟩ hnd.2 (fun m hm => hf m (by simp [hm])) hr
    obtain ⟨s1, r1, r2⟩ := step_comm hne hx hy hxy hT (step_names hx (HR.ok i x hx) hsy hs hj) (back_names hx hy hxy (HR.ok j y hy) hsy h1 hs hUi) hsy h1
    exact ⟨s1, r1, ⟨sz, r2, h2⟩⟩
end
end Go.Proofs.Ytoemdhcnfmkkaaa.AE
