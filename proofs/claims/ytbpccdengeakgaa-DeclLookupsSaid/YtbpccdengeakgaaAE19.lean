/-
  AE, part 19: DrawsOk.
-/
import Derived.Test.YtbpccdengeakgaaAE18
set_option linter.unusedVariables false
set_option linter.unusedSimpArgs false
namespace Go.Proofs.Ytbpccdengeakgaa.AE
open Go Go.RowKit
theorem masks_spec : ∀ (xs : List XO) (acc : List Nat), ∃ r, masks xs acc = acc ++ r ∧ r.length = xs.length ∧ ∀ i x, xs[i]? = some x → (acc ++ r)[acc.length + i]? = some (maskOf (acc ++ r.take i) x.bef)
  | [], acc => ⟨[], by simp [masks], rfl, fun i x h => by simp at h⟩
  | o :: q, acc => by
    obtain ⟨r, h1, h2, h3⟩ := masks_spec q (acc ++ [maskOf acc o.bef])
    refine ⟨maskOf acc o.bef :: r, by rw [masks, h1]; simp, by simp [h2], fun i x hx => ?_⟩
    cases i with
    | zero =>
      obtain rfl : o = x := by simpa using hx
      simp
    | succ i =>
      have := h3 i x (by simpa using hx)
      simp only [List.append_assoc, List.singleton_append, List.length_append, List.length_cons, List.length_nil] at this
      rw [show acc.length + (i + 1) = acc.length + (0 + 1) + i by omega, List.take_succ_cons]
      exact this
theorem maskOf_bit (acc : List Nat) {j : Nat} : ∀ (b : List Nat), (maskOf acc b).testBit j = true → ∃ p ∈ b, j = p ∨ (acc.getD p 0).testBit j = true
  | [], h => by simp [maskOf] at h
  | p :: b, h => by
    simp only [maskOf, List.foldr_cons] at h
    rw [Nat.testBit_or, Nat.testBit_or, Bool.or_eq_true, Bool.or_eq_true, Nat.testBit_two_pow] at h
    rcases h with (h | h) | h
    · exact ⟨p, by simp, .inl (by simpa using (of_decide_eq_true h).symm)⟩
    · exact ⟨p, by simp, .inr h⟩
    · obtain ⟨q, hq, hh⟩ := maskOf_bit acc b h
      exact ⟨q, by simp [hq], hh⟩
/-- Every bit of a mask is listed where the ones right before are, and the listed are closed. -/
theorem mask_listed {xs : List XO} {S : Nat → Prop} (hcl : ∀ (p : Nat) (x : XO), S p → xs[p]? = some x → ∀ q ∈ x.bef, S q) (hlt : ∀ (i : Nat) (x : XO), xs[i]? = some x → ∀ p ∈ x.bef, p < i) : ∀ (m i : Nat) (x : XO), i ≤ m → xs[i]? = some x → (∀ q ∈ x.bef, S q) → ∀ j, ((masks xs []).getD i 0).testBit j = true → S j := by
  obtain ⟨r, h1, h2, h3⟩ := masks_spec xs []
  have hM : ∀ i x, xs[i]? = some x → (masks xs []).getD i 0 = maskOf ((masks xs []).take i) x.bef := by
    intro i x hx
    have := h3 i x hx
    simp only [List.nil_append, List.length_nil, Nat.zero_add] at this h1
    rw [h1, List.getD_eq_getElem?_getD, this]
    rfl
  intro m
  induction m with
  | zero =>
    intro i x hi hx hS j hb
    rw [hM i x hx] at hb
    obtain ⟨p, hp, hh⟩ := maskOf_bit _ _ hb
    have := hlt i x hx p hp
    omega
  | succ m ih =>
    intro i x hi hx hS j hb
    rw [hM i x hx] at hb
    obtain ⟨p, hp, hh⟩ := maskOf_bit _ _ hb
    have hpi := hlt i x hx p hp
    rcases hh with rfl | hh
    · exact hS j hp
    · have hil : i < xs.length := (List.getElem?_eq_some_iff.1 hx).1
      have hxp : xs[p]? = some xs[p] := List.getElem?_eq_getElem (by omega)
      refine ih p xs[p] (by omega) hxp (fun q hq => hcl p _ (hS p hp) hxp q hq) j ?_
      rw [List.getD_eq_getElem?_getD, List.getElem?_take_of_lt hpi, ← List.getD_eq_getElem?_getD] at hh
      exact hh
theorem statD_spec {xs : List XO} (h : statD xs = true) : ∀ i x, xs[i]? = some x → x.op.xs.all X.ok = true ∧ (∀ p ∈ x.bef, p < i) ∧ ∀ j, j < i → ((masks xs []).getD i 0).testBit j = true ∨ ∀ y, xs[j]? = some y → y.apart x = true := by
  intro i x hx
  unfold statD at h
  have := List.all_eq_true.1 h i (List.mem_range.2 (List.getElem?_eq_some_iff.1 hx).1)
  rw [hx] at this
  simp only [Bool.and_eq_true, List.all_eq_true, decide_eq_true_eq, List.mem_range, Bool.or_eq_true] at this
  refine ⟨List.all_eq_true.2 this.1.1, this.1.2, fun j hj => ?_⟩
  rcases this.2 j hj with h | h
  · exact .inl h
  · refine .inr fun y hy => ?_
    rw [hy] at h
    exact h
theorem mem_mkPrs {xs : List XO} {i j : Nat} {x y : XO} (hx : xs[i]? = some x) (hy : xs[j]? = some y) (hj : j < i) (hm : ((masks xs []).getD i 0).testBit j = false) (hk : (x.op.kd = 2 ∧ y.op.kd ≠ 0) ∨ (y.op.kd = 2 ∧ x.op.kd ≠ 0)) : (j, i) ∈ mkPrs xs := by
  unfold mkPrs
  refine List.mem_flatMap.2 ⟨i, List.mem_range.2 (List.getElem?_eq_some_iff.1 hx).1, ?_⟩
  rw [hx]
  refine List.mem_flatMap.2 ⟨j, List.mem_range.2 hj, ?_⟩
  rw [hy]
  have : (!((masks xs []).getD i 0).testBit j && ((x.op.kd == 2 && y.op.kd != 0) || (y.op.kd == 2 && x.op.kd != 0))) = true := by
    rw [hm]
    rcases hk with ⟨h1, h2⟩ | ⟨h1, h2⟩ <;> simp [h1, h2]
  simp only
  rw [if_pos this]
  simp
theorem touch_kd {md : Nat → Bool} {h : Hp} {e : Env} (o : XOp) : (o.kd ≠ 2 → (touch md e h o).2 = []) ∧ (o.kd = 0 → (touch md e h o) = ([], [])) := by
  cases o <;> simp [XOp.kd, touch]
section
variable {P : Program} {B : Nat} {w0 w w' : World} {I I' I0 : Nat → Prop} {μ μ' μ0 : Mu} {h h' : Hp} {e : Env} {d d' : D} {v : Value} {k n N : Nat} {C : Calls1} {md : Nat → Bool} {a : Act} {w1 : World} {k0 : Nat} {xs : List XO} {ts : List Tch} {s s1 : ES} {i : Nat} {U : Nat → Prop}
variable {nE : Nat} {im : Nat → Bool}
/-- What each of a run touched has its operation's kind. -/
theorem run_kd {md : Nat → Bool} : ∀ (L : List Nat) (s s' : ES), RunT md C k n nE im xs ts L s s' → ∀ i ∈ L, ∀ x, xs[i]? = some x → (x.op.kd ≠ 2 → (ts.getD i ([], [])).2 = []) ∧ (x.op.kd = 0 → ts.getD i ([], []) = ([], []))
  | [], s, s', hr, i, hi, x, hx => by cases hi
  | m :: L, s, s', ⟨s1, hst, hr⟩, i, hi, x, hx => by
    rcases List.mem_cons.1 hi with rfl | hi
    · obtain ⟨x', d, hx', ⟨b, hb, hE⟩, _⟩ := hst
      rw [hx] at hx'; obtain rfl := Option.some.inj hx'
      rcases hE with ⟨_, _, ht, _⟩ | ⟨_, ht, _, _⟩
      · rw [← ht]; exact touch_kd _
      · rw [ht]; exact ⟨fun _ => rfl, fun _ => rfl⟩
    · exact run_kd L s1 s' hr i hi x hx
theorem apartT_of {T U : Tch} (h : (T.2 = [] ∧ U.2 = []) ∨ T = ([], []) ∨ U = ([], [])) : apartT T U = true := by
  rcases h with ⟨h1, h2⟩ | rfl | rfl
  · simp [apartT, h1, h2]
  · simp [apartT]
  · simp [apartT]
/-- All orders. -/
theorem wpAny_ok (HC : CallsOk P C) (HF : FrameOk C) (hu : ∀ i j, im i = true → im j = true → i = j) {ops : Array Oper} (HR : RegOk P N ops xs ts) (hlt : ∀ (i : Nat) (x : XO), xs[i]? = some x → ∀ p ∈ x.bef, p < i) (hbef : ∀ (i : Nat) (o : Oper) (x : XO), ops[i]? = some o → xs[i]? = some x → x.bef = befs o)
    (hfree : ∀ i j, j < i → i < xs.length → ((masks xs []).getD i 0).testBit j = false → Free2 xs ts j i) {s' : ES} {Q : Exit → Act → World → Prop} : ∀ (f : Nat) (L : List Nat) (listed : Array Bool) (s : ES) (a : Act) (w : World), L.length = f → RunT md C k n nE im xs ts L s s' → SimU B w0 N I0 μ0 w1 k0 k n nE im (· ∈ L) s a w → L.Pairwise (· < ·) → (∀ i ∈ L, i < ops.size) → listed.size = ops.size → (∀ i, i < ops.size → (listed.getD i true = false ↔ i ∈ L)) →
    (∀ (p : Nat) (x : XO), p ∉ L → xs[p]? = some x → ∀ q ∈ x.bef, q ∉ L) → (∀ a' w', SimU B w0 N I0 μ0 w1 k0 k n nE im (fun _ => False) s' a' w' → Q .normal a' w') → wpAny P .any ops Q f listed a w
  | 0, L, listed, s, a, w, hf, hr, hs, hp, hb, hsz, hl, hcl, hQ => by
    obtain rfl : L = [] := List.length_eq_zero_iff.1 hf
    unfold wpAny
    refine ⟨?_, ?_⟩
    · refine List.eq_nil_iff_forall_not_mem.2 fun i hi => ?_
      obtain ⟨h1, o, ho, _⟩ := mem_ready.1 hi
      have := (hl i (Array.getElem?_eq_some_iff.1 ho).1).1 h1
      cases this
    · obtain rfl := hr
      exact hQ a w (hs.imp fun i hi => hi.elim)
  | f + 1, L, listed, s, a, w, hf, hr, hs, hp, hb, hsz, hl, hcl, hQ => by
    have bef_listed : ∀ (i : Nat) (o : Oper) (x : XO), ops[i]? = some o → xs[i]? = some x → ((∀ q ∈ x.bef, q ∉ L) ↔ ∀ e ∈ o.after, Region.binds .any e = true → listed.getD e.on false = true) := by
      intro i o x ho hx
      have hq : ∀ q, q < ops.size → (q ∉ L ↔ listed.getD q false = true) := by
        intro q hq
        rw [← hl q hq]
        rw [Array.getD_eq_getD_getElem?, Array.getD_eq_getD_getElem?, Array.getElem?_eq_getElem (by omega)]
        simp
      have hin : ∀ q ∈ x.bef, q < ops.size := fun q hq => by
        have h1 := hlt i x hx q hq
        have h2 := (Array.getElem?_eq_some_iff.1 ho).1
        omega
      rw [hbef i o x ho hx] at hin ⊢
      constructor
      · intro h e he hbd
        have hm : e.on ∈ befs o := List.mem_map.2 ⟨e, List.mem_filter.2 ⟨by simpa using he, hbd⟩, rfl⟩
        exact (hq _ (hin _ hm)).1 (h _ hm)
      · intro h q hqm
        have hqm' := hqm
        obtain ⟨e, he, rfl⟩ := List.mem_map.1 hqm
        obtain ⟨he, hbd⟩ := List.mem_filter.1 he
        exact (hq _ (hin _ hqm')).2 (h e (by simpa using he) hbd)
    unfold wpAny
    refine ⟨fun hnil => ?_, fun j hj => ?_⟩
    · -- the first of the list is ready
      exfalso
      cases L with
      | nil => simp at hf
      | cons i L =>
        have hi := hb i (by simp)
        have ho : ops[i]? = some ops[i] := Array.getElem?_eq_getElem hi
        have hi' : i < xs.length := by rw [HR.len]; exact hi
        have hx : xs[i]? = some xs[i] := List.getElem?_eq_getElem hi'
        have : i ∈ Region.ready .any ops listed := mem_ready.2 ⟨(hl i hi).2 (by simp), ops[i], ho, (bef_listed i _ _ ho hx).1 fun q hq hqL => by
          have h1 := hlt i _ hx q hq
          rcases List.mem_cons.1 hqL with rfl | h2
          · omega
          · have := (List.pairwise_cons.1 hp).1 q h2
            omega⟩
        rw [hnil] at this
        cases this
    · obtain ⟨h1, o, ho, hall⟩ := mem_ready.1 hj
      have hjs := (Array.getElem?_eq_some_iff.1 ho).1
      have hjL := (hl j hjs).1 h1
      have hjs' : j < xs.length := by rw [HR.len]; exact hjs
      have hxj : xs[j]? = some xs[j] := List.getElem?_eq_getElem hjs'
      have hbj := (bef_listed j o _ ho hxj).2 hall
      obtain ⟨L1, L2, rfl⟩ := List.append_of_mem hjL
      have hp1 := List.pairwise_append.1 hp
      have hnd : (L1 ++ j :: L2).Nodup := hp.imp (fun h => Nat.ne_of_lt h)
      have hjL1 : j ∉ L1 := fun h => by
        have := hp1.2.2 j h j (by simp)
        omega
      have hjL2 : j ∉ L2 := fun h => by
        have := (List.pairwise_cons.1 hp1.2.1).1 j h
        omega
      obtain ⟨sj, hst, hrest⟩ := bubble HC HF hu HR L1 (· ∈ L1 ++ j :: L2) s a w hs (fun i hi => by simp [hi]) (by simp) (hp1.1.imp (fun h => Nat.ne_of_lt h)) (fun i hi => by
        have hij := hp1.2.2 i hi j (by simp)
        refine ⟨by omega, hfree j i hij (by rw [HR.len]; exact hjs) ?_⟩
        cases hm : ((masks xs []).getD j 0).testBit i with
        | false => rfl
        | true =>
          exact absurd (by simp [hi] : i ∈ L1 ++ j :: L2) (mask_listed (S := fun q => q ∉ L1 ++ j :: L2) (fun p x hp hx q hq => hcl p x hp hx q hq) hlt j j _ (Nat.le_refl _) hxj hbj i hm)) hr
      obtain ⟨o', ho', hco⟩ := HR.cop j _ hxj
      rw [ho] at ho'; obtain rfl := Option.some.inj ho'
      unfold wpOp
      rw [ho]
      have step := step_ok HC hu (Q := Q) ho hco hxj hst hs (by simp) (K := wpAny P .any ops Q f (listed.setIfInBounds j true)) (fun a' w' hs' => by
        have mem : ∀ i, (i ∈ L1 ++ L2) ↔ (i ∈ L1 ++ j :: L2 ∧ i ≠ j) := by
          intro i
          simp only [List.mem_append, List.mem_cons]
          constructor
          · rintro (h | h)
            · exact ⟨.inl h, fun he => hjL1 (he ▸ h)⟩
            · exact ⟨.inr (.inr h), fun he => hjL2 (he ▸ h)⟩
          · rintro ⟨h | h | h, hne⟩
            · exact .inl h
            · exact absurd h hne
            · exact .inr h
        refine wpAny_ok HC HF hu HR hlt hbef hfree f (L1 ++ L2) (listed.setIfInBounds j true) sj a' w' (by simp at hf ⊢; omega) hrest (hs'.imp fun i hi => (mem i).1 hi) ?_ (fun i hi => hb i ((mem i).1 hi).1) (by simp [hsz]) (fun i hi => ?_) (fun p x hpL hx q hq => ?_) hQ
        · exact hp.sublist (List.Sublist.append (List.Sublist.refl _) (List.sublist_cons_self _ _))
        · rw [mem, ← hl i hi]
          by_cases hij : i = j
          · subst hij
            rw [Array.getD_eq_getD_getElem?, Array.getElem?_setIfInBounds_self_of_lt (by omega)]
            simp
          · rw [getD_set_ne true (Ne.symm hij)]
            simp [hij]
        · rw [mem] at hpL ⊢
          rintro ⟨hqL, hqj⟩
          by_cases hpj : p = j
          · subst hpj
            rw [hxj] at hx; obtain rfl := Option.some.inj hx
            exact hbj q hq hqL
          · exact hcl p x (fun h => hpL ⟨h, hpj⟩) hx q hq hqL)
      simp only
      split
      · rename_i hw; rw [if_pos hw] at step; exact .inl step
      · rename_i hw; rw [if_neg hw] at step; exact step
theorem cOps_get {dr : Bool} {ops : Array Oper} : ∀ {l : List Oper} {xs : List XO}, cOps P dr ops N l = some xs → xs.length = l.length ∧ ∀ (i : Nat) (x : XO), xs[i]? = some x → ∃ o : Oper, l[i]? = some o ∧ cOper P dr ops N o = some x
  | [], xs, h => by obtain rfl := Option.some.inj h; exact ⟨rfl, fun i x h => by simp at h⟩
  | o :: r, xs, h => by
    simp only [cOps, Option.bind_eq_some_iff] at h
    obtain ⟨x, hx, q, hq, he⟩ := h
    obtain rfl := Option.some.inj he
    obtain ⟨h1, h2⟩ := cOps_get hq
    refine ⟨by simp [h1], fun i y hy => ?_⟩
    cases i with
    | zero => obtain rfl : x = y := by simpa using hy
              exact ⟨o, by simp, hx⟩
    | succ i => obtain ⟨o', h3, h4⟩ := h2 i y (by simpa using hy); exact ⟨o', by simpa using h3, h4⟩
theorem cOper_bef {dr : Bool} {ops : Array Oper} {o : Oper} {x : XO} (h : cOper P dr ops N o = some x) : x.bef = befs o := by
  simp only [cOper, Option.bind_eq_some_iff] at h
  obtain ⟨xo, hxo, g, hg, h⟩ := h
  split at h
  · obtain rfl := Option.some.inj h; rfl
  · cases h
theorem drawsOk (hm : P.follows .mixedOrders = true) (md : Nat → Bool) : DrawsOk P md := by
  intro C HC HF B w0 N I0 μ0 w1 k0 id ops xs s z a w Q hc hst hev hprs hs hQ
  obtain ⟨hlen, hget⟩ := cOps_get hc
  have hlen' : xs.length = ops.size := by rw [hlen]; simp
  have HR : RegOk P N ops xs z.1 := ⟨fun i x hx => by obtain ⟨o, h1, h2⟩ := hget i x hx; exact ⟨o, by simpa using h1, h2⟩, hlen', fun i x hx => (statD_spec hst i x hx).1⟩
  have hev0 : evOpsD md C (s.k + W8 * 0) true xs ⟨s.e, s.h, s.k + W8 * xs.length⟩ = some (z.1, z.2) := by simpa using hev
  obtain ⟨im, nE, hrun, hk, hle, _, hu⟩ := runT_of HF (n := s.k + W8 * xs.length) (xs := xs) (ts := z.1) xs 0 z.1 _ z.2 (by simp) (by simp) rfl hev0
  have hkd := run_kd _ _ _ hrun
  refine wp_region_any hm ?_
  have hs0 : SimU B w0 N I0 μ0 w1 k0 s.k (s.k + W8 * xs.length) nE im (· ∈ List.range' 0 xs.length) (s.e, s.h) a { w with drawn := w.drawn + 1 } := by
    obtain ⟨⟨I, μ, h1, h2, h3, h4, h5, h6, h7, h8, h9, h10⟩, hz, hd⟩ := hs
    have g : Go1 I I μ μ w { w with drawn := w.drawn + 1 } := ⟨fun _ h => h, fun _ _ => rfl, fun _ _ h => h⟩
    refine ⟨⟨I, μ, h1.go g, h2.go g (Below.drew (Below.refl _ _)) h2.lt (fun b hb _ => hb) (fun _ _ => rfl), h3.trans g, fun l hl => h4 l (by omega), h5, h7, fun i hi j hj => h4 _ (by omega), fun i hi _ l hl => h4 l (by omega)⟩, hz, hd, h6, fun i hi => ?_, hle⟩
    have := (List.mem_range'_1.1 hi).2
    show s.k + 8 * i + 8 ≤ s.k + 8 * xs.length
    omega
  refine wpAny_ok HC HF hu HR (fun i x hx => (statD_spec hst i x hx).2.1) (fun i o x ho hx => ?_) (fun i j hji hi hm => ?_) ops.size (List.range' 0 xs.length) _ (s.e, s.h) a _ (by simp [hlen']) hrun hs0 List.pairwise_lt_range' (fun i hi => ?_) (by simp) (fun i hi => ?_) (fun p x hp hx q hq => ?_) (fun a' w' hs' => hQ a' w' ?_)
  · obtain ⟨o', h1, h2⟩ := HR.cop i x hx
    rw [ho] at h1; obtain rfl := Option.some.inj h1
    exact cOper_bef h2
  · have hxi : xs[i]? = some xs[i] := List.getElem?_eq_getElem hi
    have hxj : xs[j]? = some xs[j] := List.getElem?_eq_getElem (by omega)
    refine ⟨_, _, hxj, hxi, ?_, ?_⟩
    · rcases (statD_spec hst i _ hxi).2.2 j hji with h | h
      · rw [hm] at h; cases h
      · exact h _ hxj
    · by_cases hk2 : (xs[i].op.kd = 2 ∧ xs[j].op.kd ≠ 0) ∨ (xs[j].op.kd = 2 ∧ xs[i].op.kd ≠ 0)
      · exact List.all_eq_true.1 hprs _ (mem_mkPrs hxi hxj hji hm hk2)
      · obtain ⟨ki1, ki2⟩ := hkd i (List.mem_range'_1.2 ⟨Nat.zero_le _, by omega⟩) _ hxi
        obtain ⟨kj1, kj2⟩ := hkd j (List.mem_range'_1.2 ⟨Nat.zero_le _, by omega⟩) _ hxj
        refine apartT_of ?_
        by_cases h1 : xs[i].op.kd = 2
        · exact .inr (.inl (kj2 (Decidable.byContradiction fun h => hk2 (.inl ⟨h1, h⟩))))
        · by_cases h2 : xs[j].op.kd = 2
          · exact .inr (.inr (ki2 (Decidable.byContradiction fun h => hk2 (.inr ⟨h2, h⟩))))
          · exact .inl ⟨kj1 h2, ki1 h1⟩
  · have := (List.mem_range'_1.1 hi).2; omega
  · rw [Array.getD_eq_getD_getElem?, Array.getElem?_replicate, if_pos hi]
    simp [List.mem_range'_1, hlen', hi]
  · exact absurd (List.mem_range'_1.2 ⟨Nat.zero_le _, by have := (List.getElem?_eq_some_iff.1 hx).1; omega⟩) hp
  · obtain ⟨⟨I, μ, h1, h2, h3, h4, h5, h6, h7, _⟩, hz, hd, hl, hb, hn⟩ := hs'
    exact ⟨⟨I, μ, h1, h2, h3, fun l hl => h4 l (by omega), h5, by omega, h6, fun j _ hj => by omega, by omega, fun hm => by omega⟩, hz, hd⟩
end
end Go.Proofs.Ytbpccdengeakgaa.AE
