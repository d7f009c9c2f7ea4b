/-
  AE, part 11: append, make, maps.
-/
import Derived.Test.YtbpccdengeakgaaAE10
set_option linter.unusedVariables false
set_option linter.unusedSimpArgs false
namespace Go.Proofs.Ytbpccdengeakgaa.AE
open Go Go.RowKit
section
variable {P : Program} {B : Nat} {w0 w w' : World} {I I' : Nat → Prop} {μ μ' : Mu} {h h' : Hp} {e : Env} {ρ : Operand → Value} {d d' : D} {v : Value} {k : Nat}
/-- The cells of a slice that is read. -/
theorem elems_cells (hi : Inv B w0 I μ h w) (hv : Rp w I μ d v) {sz : Nat} (hsz : 0 < sz) {xs : List (List D)} (he : elems h d = some xs) (hl : ∀ x ∈ xs, x.length = sz) :
    ∃ A c us, v = .slice A xs.length c ∧ ImL w I xs.flatten us ∧ (∀ x ∈ xs, ∀ d ∈ x, D.leaf d = true) ∧ (A = none → xs = []) ∧ (∀ ad, A = some ad → ∀ (j : Nat) (u : Value), us[j]? = some u → w.cell? (ad.add j) = some u) := by
  cases d <;> simp only [elems] at he <;> try (cases he; done)
  · obtain rfl := Option.some.inj he
    cases hv with | im hm => cases hm; exact ⟨none, 0, [], rfl, .nil, by simp, fun _ => rfl, fun ad h => by cases h⟩
  · rename_i xs0
    obtain rfl : xs = xs0 := (Option.some.inj he).symm
    cases hv with | im hm =>
    cases hm with
    | isl f hc hlen hlf hcell hr =>
      rename_i A c sz'
      by_cases hne : xs = []
      · subst hne
        exact ⟨A, c, [], rfl, .nil, by simp, fun _ => rfl, fun ad _ j u hu => by simp at hu⟩
      · have hss : sz' = sz := by
          obtain ⟨x, hx⟩ := List.exists_mem_of_ne_nil xs hne
          rw [← hlen x hx, hl x hx]
        subst hss
        obtain ⟨ad, rfl, hI, hcl⟩ := hcell hne
        have hfl := flat_length hlen
        have key : ∀ j d, xs.flatten[j]? = some d → ∃ x, xs[j / sz']? = some x ∧ x[j % sz']? = some d := by
          intro j d hd
          have hj : j < xs.length * sz' := by have := (List.getElem?_eq_some_iff.1 hd).1; omega
          have hq : j / sz' < xs.length := (Nat.div_lt_iff_lt_mul hsz).2 hj
          have hx : xs[j / sz']? = some xs[j / sz'] := List.getElem?_eq_getElem hq
          have h2 := flat_get hlen hx (Nat.mod_lt j hsz)
          rw [Nat.mul_comm, Nat.div_add_mod, hd] at h2
          exact ⟨_, hx, h2.symm⟩
        refine ⟨some ad, c, (List.range (xs.length * sz')).map fun j => f (j / sz') (j % sz'), rfl, ⟨by simp [hfl], fun j d v hd hv => ?_⟩, hlf, (fun h => by cases h), fun ad' ha j u hu => ?_⟩
        · obtain ⟨x, hx, hx2⟩ := key j d hd
          have hj : j < xs.length * sz' := by have := (List.getElem?_eq_some_iff.1 hd).1; omega
          rw [List.getElem?_map, List.getElem?_range hj] at hv
          obtain rfl := Option.some.inj hv
          exact hr _ _ x d hx hx2
        · obtain rfl := Option.some.inj ha
          rw [List.getElem?_map] at hu
          obtain ⟨j', hj', rfl⟩ := Option.map_eq_some_iff.1 hu
          have hlt : j < xs.length * sz' := by have := (List.getElem?_eq_some_iff.1 hj').1; simpa using this
          rw [List.getElem?_range hlt] at hj'
          obtain rfl := Option.some.inj hj'
          have hd : xs.flatten[j]? = some xs.flatten[j] := List.getElem?_eq_getElem (by omega)
          obtain ⟨x, hx, hx2⟩ := key j _ hd
          have := hcl _ _ x _ hx hx2
          rw [Nat.mul_comm, Nat.div_add_mod] at this
          exact this
  · rename_i l
    have hoo := hi.ob l
    cases hl2 : h l with
    | row ety sz' ys own =>
      rw [hl2] at he hoo
      obtain rfl := Option.some.inj he
      obtain ⟨p, cells, k1, k2, k3, k4, k5, k6, k7, k8, k9, k10⟩ := hoo
      cases hv with
      | im hm => cases hm
      | osl hp hv =>
        rw [k1] at hp
        obtain rfl := Option.some.inj hp
        rcases k5.2 with ⟨hn, hn0⟩ | ⟨g, cap, cur, hvv, _, hg, hle, _⟩
        · rw [hv] at hn
          injection hn with e1 e2 e3
          subst e1; subst e2; subst e3
          have : ys = [] := List.eq_nil_of_length_eq_zero hn0
          subst this
          exact ⟨none, 0, [], rfl, .nil, by simp, fun _ => rfl, fun ad h => by cases h⟩
        · rw [hv] at hvv
          injection hvv with e1 e2 e3
          subst e1; subst e2; subst e3
          refine ⟨_, _, cells, rfl, k8, k7, (fun h => by cases h), fun ad ha j u hu => ?_⟩
          obtain rfl := Option.some.inj ha
          rw [Addr.add_mid, Nat.zero_add]
          exact row_cell k5 (by rw [hv]; rfl) hu
    | _ => rw [hl2] at he; cases he
theorem bytD_inv : ∀ {xs : List (List D)} {ns : List Int}, bytD xs = some ns → xs = ns.map fun n => [.int .u8 n]
  | [], ns, h => by
    simp only [bytD, Option.some.injEq] at h
    subst h
    rfl
  | r :: q, ns, h => by
    unfold bytD at h
    split at h
    · rename_i n
      simp only [Option.bind_eq_some_iff, Option.some.injEq] at h
      obtain ⟨ms, hm, rfl⟩ := h
      rw [bytD_inv hm]
      rfl
    · cases h
theorem bts_ok (hi : Inv B w0 I μ h w) (ho : OpsOk w I μ e ρ) {o : Oper} {s t et : TypeId} {x : Operand} (hop : o.op = .convert s t x) (hs : P.underlying s = some (.slice et)) (he : P.underlying et = some (.int .u8)) (ht : P.underlying t = some .string) {y : X} (hx : cX x = some y) {xs : List (List D)} (hxs : elems h (y.ev e) = some xs) {ns : List Int} (hn : bytD xs = some ns) : Res P B w0 I μ w k (execOp ρ o) (.str (strOfNums ns)) h := by
  obtain rfl := bytD_inv hn
  obtain ⟨A, cc, us, hv, y3, y2, y4, y5⟩ := elems_cells hi (ho x y hx) (show 0 < 1 by omega) hxs (fun x hx => by obtain ⟨n, _, rfl⟩ := List.mem_map.1 hx; rfl)
  have hus : us = ns.map (Value.int .u8) := by
    refine List.ext_getElem? fun j => ?_
    have hfl : ∀ ns : List Int, (ns.map fun n => [D.int .u8 n]).flatten = ns.map fun n => D.int .u8 n := by
      intro ns
      induction ns with
      | nil => rfl
      | cons a r ih => rw [List.map_cons, List.flatten_cons, ih]; rfl
    rw [hfl] at y3
    have hl := y3.1
    rw [List.length_map] at hl
    rcases Nat.lt_or_ge j ns.length with hj | hj
    · have hu : us[j]? = some us[j] := List.getElem?_eq_getElem (by omega)
      have := y3.2 j (.int .u8 ns[j]) us[j] (by rw [List.getElem?_map, List.getElem?_eq_getElem hj]; rfl) hu
      have h3 : Rp w I μ (.int .u8 ns[j]) us[j] := .im this
      rw [hu, List.getElem?_map, List.getElem?_eq_getElem hj, h3.int_inv]
      rfl
    · rw [List.getElem?_eq_none (by omega), List.getElem?_eq_none (by rw [List.length_map]; exact hj)]
  rw [List.length_map] at hv
  refine .pure hi ?_ (.str _)
  cases A with
  | none =>
    have h0 := y4 rfl
    have : ns = [] := by cases ns with | nil => rfl | cons a r => cases h0
    subst this
    have hr := run_convert_bytes_nil (P := P) w s et hs he 0 cc t ht
    simp [execOp, hop, hv, hr]
    rfl
  | some ad =>
    have hl : (loadCells ad ns.length).run P w = .ok (ns.map (Value.int .u8)).toArray w := by
      have := run_loadCells_list (P := P) w ad (ns.map (Value.int .u8)) (fun j v hj => y5 ad rfl j v (by rw [hus]; exact hj))
      simpa using this
    have hr : (convert s t (.slice (some ad) ns.length cc)).run P w = .ok (.string (strOfNums ns)) w := by
      rw [run_convert_bytes_string w s t et _ ns.length cc hs he ht, run_bytesToString w _ ns.length cc ns hl, foldl_push_bytes]
      simp [strOfNums, ByteArray.empty, ByteArray.emptyWithCapacity]
      rfl
    simp [execOp, hop, hv, hr]
theorem run_append_nil_c (t ty et : TypeId) (i : TypeInfo) (ht : P.underlying t = some (.slice et)) (hi : P.info? et = some i) {size n : Nat} {v : Value} {xs : List Value} (hown : w.ownsRow B et size v n xs) (c : Nat) : (Builtin.append_ #[t, t] ty #[v, .slice none 0 c]).run P w = .ok v w := by
  rcases hown.2 with ⟨rfl, rfl⟩ | ⟨g, cap, cur, rfl, _, _, hnc, _⟩
  · simp [Builtin.append_, run_underlying ht, sizeOf, typeInfo, hi, Builtin.lenOf, Builtin.firstCells]
  · simp [Builtin.append_, run_underlying ht, sizeOf, typeInfo, hi, Builtin.lenOf, Builtin.firstCells, hnc, storeCells]
/-- append onto what is owned (or nil). -/
theorem app_core (hi : Inv B w0 I μ h w) (hk : μ k = none) {t ty et : TypeId} (hu : P.underlying t = some (.slice et)) {i : TypeInfo} (hinf : P.info? et = some i) {z : List D} (hz : zCells P et = some z) (hs0 : i.size ≠ 0) (hby : i.bytes ≤ 2048)
    {v : Value} {xs : List (List D)} {cells : List Value} (hown : w.ownsRow B et i.size v xs.length cells) (x1 : ∀ x ∈ xs, x.length = i.size) (x2 : ∀ x ∈ xs, ∀ d ∈ x, D.leaf d = true) (x3 : ImL w I xs.flatten cells) (x4 : ∀ b, v.ownBlock = some b → ¬ I b)
    {A : Option Addr} {c : Nat} {ys : List (List D)} {us : List Value} (y1 : ∀ x ∈ ys, x.length = i.size) (y2 : ∀ x ∈ ys, ∀ d ∈ x, D.leaf d = true) (y3 : ImL w I ys.flatten us) (y4 : A = none → ys = []) (y5 : ∀ ad, A = some ad → ∀ (j : Nat) (u : Value), us[j]? = some u → w.cell? (ad.add j) = some u)
    (hlim : LimA i.bytes (xs.length + ys.length)) (h1 : Hp) (hh : ∀ j, j ≠ k → h1 j = h j ∨ h1 j = .no) (hdis : ∀ j p b, j ≠ k → h1 j = h j → (h j).isOwn = true → μ j = some p → p.b = some b → v.ownBlock ≠ some b) :
    ∃ v' w', (Builtin.append_ #[t, t] ty #[v, .slice A ys.length c]).run P w = .ok v' w' ∧ Rp w' I (mput μ k ⟨v'.ownBlock, i.size, v'⟩) (.osl k) v' ∧ Inv B w0 I (mput μ k ⟨v'.ownBlock, i.size, v'⟩) (hput h1 k (.row et i.size (xs ++ ys) true)) w' ∧ Go1 I I μ (mput μ k ⟨v'.ownBlock, i.size, v'⟩) w w' := by
  obtain ⟨i', zv, q1, q2, q3, q4, q5⟩ := zCells_inv hz
  rw [hinf] at q1
  obtain rfl := Option.some.inj q1
  have hus : us.length = ys.length * i.size := by rw [← y3.1, flat_length y1]
  have hrun : ∃ v' w', (Builtin.append_ #[t, t] ty #[v, .slice A ys.length c]).run P w = .ok v' w' ∧ w'.ownsRow B et i.size v' (xs.length + ys.length) (cells ++ us) ∧ w.grownBy w' v.ownBlock ∧ (v'.ownBlock = v.ownBlock ∨ v'.ownBlock = some w.heap.size) := by
    cases A with
    | none =>
      obtain rfl := y4 rfl
      have : us = [] := List.eq_nil_of_length_eq_zero (by simpa using hus)
      subst this
      exact ⟨v, w, run_append_nil_c t ty et i hu hinf hown c, by simpa using hown, World.grownBy.refl w _, .inl rfl⟩
    | some ad =>
      have hone : ∀ u ∈ us, u.oneCell' = true := by
        intro u hu2
        obtain ⟨j, hj⟩ := List.mem_iff_getElem?.1 hu2
        have hjl : j < ys.flatten.length := by have := (List.getElem?_eq_some_iff.1 hj).1; rw [y3.1]; exact this
        obtain ⟨x, hx, hd⟩ := List.mem_flatten.1 (List.getElem_mem hjl)
        exact (y3.2 j _ u (List.getElem?_eq_getElem hjl) hj).one (y2 x hx _ hd)
      have hb : (xs.length + ys.length) * i.bytes ≤ 140737488355328 := by
        rcases hlim with hlim | ⟨hby, hlim⟩
        · calc (xs.length + ys.length) * i.bytes ≤ 68719476736 * 2048 := Nat.mul_le_mul hlim hby
            _ = 140737488355328 := by decide
        · calc (xs.length + ys.length) * i.bytes ≤ 2199023255552 * 64 := Nat.mul_le_mul hlim hby
            _ = 140737488355328 := by decide
      obtain ⟨v', w', r1, r2, r3, _, r5⟩ := run_append_own_at (P := P) w B t ty et i zv i.size i.bytes hu hinf q2 rfl rfl q5 (by omega) v xs.length cells hown ad ys.length c us hus (y5 ad rfl) hone (by unfold maxLen; unfold LimA Lim at hlim; omega) hb hi.hB
      exact ⟨v', w', r1, r2, r3, r5⟩
  obtain ⟨v', w', r1, r2, r3, r5⟩ := hrun
  have hvlt := hown.lt
  have g : Go1 I I μ (mput μ k ⟨v'.ownBlock, i.size, v'⟩) w w' := ⟨fun _ h => h, fun b hb => r3.block b (hi.lt b hb) (fun e => x4 b e.symm hb), mput_go hk _⟩
  have hbel : Below B w w' := (Below.refl B w).grown r3 hi.hB (fun b hb => (hvlt b hb).1)
  have hform : ∃ A n c, v' = .slice A n c := by
    rcases r2.2 with ⟨rfl, _⟩ | ⟨g, cap, cur, rfl, _⟩
    · exact ⟨_, _, _, rfl⟩
    · exact ⟨_, _, _, rfl⟩
  refine ⟨v', w', r1, ?_, ?_, g⟩
  · obtain ⟨A', n', c', rfl⟩ := hform
    exact .osl (mput_same _ _ _) rfl
  · refine hi.put g hbel (fun b hb => Nat.lt_of_lt_of_le (hi.lt b hb) hbel.size) (l := k) (o := .row et i.size (xs ++ ys) true) _ (fun j hj => ?_) (hput_same _ _ _) ?_ ?_
    · rw [hput_ne _ _ hj]; exact hh j hj
    · refine ⟨_, cells ++ us, mput_same _ _ _, rfl, by omega, rfl, by rw [List.length_append]; exact r2, fun x hx => ?_, fun x hx d hd => ?_, ?_, fun _ b hb hI => ?_, fun hf => by cases hf⟩
      · rcases List.mem_append.1 hx with hx | hx
        · exact x1 x hx
        · exact y1 x hx
      · rcases List.mem_append.1 hx with hx | hx
        · exact x2 x hx d hd
        · exact y2 x hx d hd
      · rw [List.flatten_append]
        exact (x3.go g).app (y3.go g)
      · rcases r5 with r5 | r5
        · exact x4 b (by rw [← r5]; exact hb) hI
        · have hb2 : v'.ownBlock = some b := hb
          rw [r5] at hb2
          obtain rfl := Option.some.inj hb2
          have := hi.lt _ hI
          omega
    · intro j q b hj hj2 hoj hq hb
      rw [hput_ne _ _ hj] at hj2
      obtain ⟨o1, o2, o3⟩ := (hi.ob j).lt hq hb hoj
      have hne := hdis j q b hj hj2 hoj hq hb
      refine ⟨r3.block b o1 (fun e => hne e.symm), o2, fun _ p' hp' => ?_⟩
      rw [mput_same] at hp'
      obtain rfl := Option.some.inj hp'
      intro hb2
      have hb3 : v'.ownBlock = some b := hb2
      rcases r5 with r5 | r5
      · rw [r5] at hb3; exact hne hb3
      · rw [r5] at hb3; have := Option.some.inj hb3; omega
theorem app_ok (hi : Inv B w0 I μ h w) (ho : OpsOk w I μ e ρ) (hk : μ k = none) {o : Oper} {c : Go.Call} (hop : o.op = .call c) (hc : c.callee = .builtin .append) {x x2 : Operand} {t et : TypeId} (ha : c.args.toList = [x, x2]) (hat : c.argTypes.toList = [t, t]) (hu : P.underlying t = some (.slice et)) {i : TypeInfo} (hinf : P.info? et = some i)
    {z : List D} (hz : zCells P et = some z) (hs0 : i.size ≠ 0) (hby : i.bytes ≤ 2048) {y y2 : X} (hx : cX x = some y) (hx2 : cX x2 = some y2) {ys : List (List D)} (hys : elems h (y2.ev e) = some ys) (hyl : ∀ y ∈ ys, y.length = i.size)
    (hev : (y.ev e = .nls ∧ LimA i.bytes ys.length ∧ h' = hput h k (.row et i.size ys true)) ∨ (∃ l xs, y.ev e = .osl l ∧ h l = .row et i.size xs true ∧ LimA i.bytes (xs.length + ys.length) ∧ h' = hput (hput h l .no) k (.row et i.size (xs ++ ys) true))) : Res P B w0 I μ w k (execOp ρ o) (.osl k) h' := by
  have h1 : c.args = #[x, x2] := by rw [← Array.toArray_toList (xs := c.args), ha]
  have h2 : c.argTypes = #[t, t] := by rw [← Array.toArray_toList (xs := c.argTypes), hat]
  have r1 := ho x y hx
  obtain ⟨A, cc, us, hv2, y3, y2', y4, y5⟩ := elems_cells hi (ho x2 y2 hx2) (show 0 < i.size by omega) hys hyl
  have fin : ∀ v' w' μ', (Builtin.append_ #[t, t] o.type #[ρ x, .slice A ys.length cc]).run P w = .ok v' w' → Rp w' I μ' (.osl k) v' → Inv B w0 I μ' h' w' → Go1 I I μ μ' w w' → (∀ l, μ l = none → l ≠ k → μ' l = none) → Res P B w0 I μ w k (execOp ρ o) (.osl k) h' := by
    intro v' w' μ' e1 e2 e3 e4 e5
    refine ⟨_, v', w', I, μ', ?_, .inl rfl, e2, e3, e4, e5, fun _ h => .inl h⟩
    simp [execOp, hop, resolve, hc, h1, h2, invoke, builtin, hv2, e1]
  rcases hev with ⟨hn, hlim, rfl⟩ | ⟨l, xs, hl, hob, hlim, rfl⟩
  · rw [hn] at r1
    have hv : ρ x = .slice none 0 0 := by
      generalize ρ x = v at r1
      cases r1 with | im hm => cases hm; rfl
    obtain ⟨v', w', e1, e2, e3, e4⟩ := app_core (P := P) (ty := o.type) (v := ρ x) (xs := []) (cells := []) hi hk hu hinf hz hs0 hby (by rw [hv]; exact World.ownsRow_nil w B et i.size) (by simp) (by simp) .nil (fun b hb => by rw [hv] at hb; simp [Value.ownBlock] at hb) (A := A) (c := cc) hyl y2' y3 y4 y5 (by simpa using hlim) h (fun j _ => .inl rfl) (fun j p b _ _ _ _ _ => by rw [hv]; simp [Value.ownBlock])
    exact fin v' w' _ e1 e2 (by simpa using e3) e4 (fun l hl hne => by rw [mput_ne _ _ hne]; exact hl)
  · rw [hl] at r1
    have hoo := hi.ob l
    rw [hob] at hoo
    obtain ⟨p, cells, k1, k2, k3, k4, k5, k6, k7, k8, k9, k10⟩ := hoo
    have hv : ρ x = p.val := by
      generalize ρ x = v at r1
      cases r1 with
      | im hm => cases hm
      | osl hp hv => rw [k1] at hp; obtain rfl := Option.some.inj hp; exact hv.symm
    obtain ⟨v', w', e1, e2, e3, e4⟩ := app_core (P := P) (ty := o.type) (v := ρ x) hi hk hu hinf hz hs0 hby (by rw [hv]; exact k5) k6 k7 k8 (fun b hb => k9 rfl b (by rw [k4, ← hv]; exact hb)) (A := A) (c := cc) hyl y2' y3 y4 y5 hlim (hput h l .no)
      (fun j _ => by by_cases hj : j = l
                     · subst hj; exact .inr (hput_same _ _ _)
                     · exact .inl (hput_ne _ _ hj))
      (fun j q b hj hj2 hoj hq hb => by
        have hjl : j ≠ l := by
          rintro rfl
          rw [hput_same] at hj2
          rw [← hj2] at hoj
          cases hoj
        intro hvb
        exact hi.dis j l q p b hjl hoj (by rw [hob]; rfl) hq k1 hb (by rw [k4, ← hv]; exact hvb))
    exact fin v' w' _ e1 e2 e3 e4 (fun l hl hne => by rw [mput_ne _ _ hne]; exact hl)
theorem mks_ok (hi : Inv B w0 I μ h w) (ho : OpsOk w I μ e ρ) (hk : μ k = none) {o : Oper} {t et : TypeId} {x x2 : Operand} (hop : o.op = .makeSlice t x x2) (hu : P.underlying t = some (.slice et)) {i : TypeInfo} (hinf : P.info? et = some i) {z : List D} (hz : zCells P et = some z) (hs0 : i.size ≠ 0) (hby : i.bytes ≤ 2048)
    {y y2 : X} (hx : cX x = some y) (hx2 : cX x2 = some y2) {n : Nat} (hn : asN (y.ev e) = some n) (hn2 : asN (y2.ev e) = some n) (hlim : n ≤ Lim) : Res P B w0 I μ w k (execOp ρ o) (.osl k) (hput h k (.row et i.size (List.replicate n z) true)) := by
  obtain ⟨i', zv, q1, q2, q3, q4, q5⟩ := zCells_inv hz
  rw [hinf] at q1
  obtain rfl := Option.some.inj q1
  obtain ⟨m1, m2, m3⟩ := cCells_im (w := w) (I := I) q3
  have hrep : ImL w I (List.replicate n z).flatten (madeCells zv.cells (n * i.size)).toList := by
    unfold madeCells
    rw [← q5, zero_row zv.cells n (by omega)]
    have : ∀ n, ImL w I (List.replicate n z).flatten (List.replicate n zv.cells.toList).flatten := by
      intro n
      induction n with
      | zero => simp; exact .nil
      | succ n ih => simp only [List.replicate_succ, List.flatten_cons]; exact m1.app ih
    exact this n
  obtain ⟨k1, k2, k3, k4⟩ := hi.newRow (k := k) (ety := et) hk (show 0 < i.size by omega) (fun x hx => by rw [List.eq_of_mem_replicate hx]; exact q4) (fun x hx d hd => by rw [List.eq_of_mem_replicate hx] at hd; exact m2 d hd) hrep (List.length_replicate (n := n)) (by have hlim2 : n ≤ 68719476736 := hlim; unfold maxLen; omega)
  refine ⟨_, _, _, I, _, ?_, .inl rfl, k4, k1, k2, k3, fun _ h => .inl h⟩
  have hlim2 : n ≤ 68719476736 := hlim
  have hb : (i.bytes : Int) * (n : Int) ≤ 281474976710656 := by
    have : i.bytes * n ≤ 140737488355328 := by
      calc i.bytes * n ≤ 2048 * 68719476736 := Nat.mul_le_mul hby hlim
        _ = 140737488355328 := by decide
    have h2 : ((i.bytes * n : Nat) : Int) ≤ 281474976710656 := by omega
    rwa [Int.natCast_mul] at h2
  have := run_make (P := P) w t et i zv hu hinf q2 .i64 .i64 (n : Int) (n : Int) (by omega) (by omega) hb (by omega)
  simp only [Int.toNat_natCast] at this
  simp [execOp, hop, (ho x y hx).asN hn, (ho x2 y2 hx2).asN hn2, this]

/-! ### maps -/
theorem mkmap_ok (hi : Inv B w0 I μ h w) (hk : μ k = none) {o : Oper} {t : TypeId} (hop : o.op = .makeMap t none) : Res P B w0 I μ w k (execOp ρ o) (.mpr k) (hput h k (.mp [])) := by
  obtain ⟨k1, k2, k3⟩ := hi.new hk ⟨some w.heap.size, 0, .nilFunc⟩ (.mp []) (.map #[] 0) (fun b hb => (Option.some.inj hb).symm)
    ⟨_, w.heap.size, [], 0, mput_same _ _ _, rfl, hi.hB, heap_alloc_new w _, ⟨rfl, fun j k d en h => by simp at h⟩, fun hI => by have := hi.lt _ hI; omega⟩
  refine ⟨_, _, _, I, _, ?_, .inl rfl, .mpr (mput_same _ _ _) rfl, k1, k2, k3, fun _ h => .inl h⟩
  simp [execOp, hop, Instr.makeMap]
theorem MpOk.tail {k : ByteArray} {d : D} {es : List (ByteArray × D)} {en : MapEntry} {ens : List MapEntry} (hm : MpOk w I ((k, d) :: es) (en :: ens)) : en.key = .string k ∧ Im w I d en.val ∧ MpOk w I es ens :=
  ⟨(hm.2 0 k d en rfl rfl).1, (hm.2 0 k d en rfl rfl).2, by simpa using hm.1, fun j k d en a b => hm.2 (j + 1) k d en (by simpa using a) (by simpa using b)⟩
theorem find_ok (s : ByteArray) : ∀ (es : List (ByteArray × D)) (ens : List MapEntry) (i : Nat), MpOk w I es ens →
    (∃ v d j k', Instr.findNow .string (.string s) ens i = some (some (i + j, v)) ∧ mfind s es = some d ∧ Im w I d v ∧ es[j]? = some (k', d) ∧ (s == k') = true ∧ ∀ y, mset s y es = es.set j (s, y)) ∨
    (Instr.findNow .string (.string s) ens i = some none ∧ mfind s es = none ∧ ∀ y, mset s y es = es ++ [(s, y)])
  | [], ens, i, hm => by
    have : ens = [] := List.eq_nil_of_length_eq_zero (by simpa using hm.1.symm)
    subst this
    exact .inr ⟨rfl, rfl, fun _ => rfl⟩
  | (k, d) :: es, [], i, hm => absurd hm.1 (by simp)
  | (k, d) :: es, en :: ens, i, hm => by
    obtain ⟨h1, h2, h3⟩ := hm.tail
    cases hk : (s == k) with
    | true => exact .inl ⟨en.val, d, 0, k, by simp [Instr.findNow, h1, Instr.sameNow, hk], by simp [mfind, hk], h2, rfl, hk, fun y => by simp [mset, hk]⟩
    | false =>
      rcases find_ok s es ens (i + 1) h3 with ⟨v, d', j, k', a1, a2, a3, a4, a5, a6⟩ | ⟨a1, a2, a3⟩
      · exact .inl ⟨v, d', j + 1, k', by simp [Instr.findNow, h1, Instr.sameNow, hk, a1, Nat.add_assoc, Nat.add_comm 1], by simp [mfind, hk, a2], a3, by simpa using a4, a5, fun y => by simp [mset, hk, a6 y]⟩
      · exact .inr ⟨by simp [Instr.findNow, h1, Instr.sameNow, hk, a1], by simp [mfind, hk, a2], fun y => by simp [mset, hk, a3 y]⟩
theorem run_getObj_map {r : Nat} {ens : Array MapEntry} {clk : Nat} (hr : w.heap[r]? = some (.map ens clk)) : (getObj r).run P w = .ok (.map ens clk) w := by
  simp only [getObj, Sem.run, hr]
theorem checkKey_str {kt : TypeId} (hk : P.underlying kt = some .string) (b : Bool) (s : ByteArray) : (Instr.checkKey b 10000 kt (.string s)).run P w = .ok () w := by
  rw [show (10000 : Nat) = 9999 + 1 from rfl, Instr.checkKey]
  simp [run_underlying hk]
theorem Rp.mpr_inv {l : Nat} (hv : Rp w I μ (.mpr l) v) : ∃ p b, μ l = some p ∧ p.b = some b ∧ v = .map (some b) := by
  cases hv with
  | im hm => cases hm
  | mpr h1 h2 => exact ⟨_, _, h1, h2, rfl⟩
theorem mget_ok (hi : Inv B w0 I μ h w) (ho : OpsOk w I μ e ρ) {o : Oper} {t kt et : TypeId} {x x2 : Operand} (hop : o.op = .lookup t x x2 false) (hu : P.underlying t = some (.map kt et)) (hkt : P.underlying kt = some .string) {i : TypeInfo} (z1 : P.info? et = some i) {zv : Value} (z2 : i.zero = some zv) {z : D} (hz : cLeaf zv = some z) {y y2 : X} (hx : cX x = some y) (hx2 : cX x2 = some y2)
    {l : Nat} {s : ByteArray} {es : List (ByteArray × D)} (hl : y.ev e = .mpr l) (hs : y2.ev e = .str s) (hob : h l = .mp es) : Res P B w0 I μ w k (execOp ρ o) ((mfind s es).getD z) h := by
  have r1 := ho x y hx
  have r2 := ho x2 y2 hx2
  rw [hl] at r1
  rw [hs] at r2
  obtain ⟨p, b, p1, p2, hv⟩ := r1.mpr_inv
  have hv2 := r2.str_inv
  have hoo := hi.ob l
  rw [hob] at hoo
  obtain ⟨p', b', ens, clk, q1, q2, q3, q4, q5, q6⟩ := hoo
  rw [p1] at q1; obtain rfl := Option.some.inj q1; rw [p2] at q2; obtain rfl := Option.some.inj q2
  rcases find_ok s es ens 0 q5 with ⟨v, d, j, k', a1, a2, a3, a4, a5, a6⟩ | ⟨a1, a2, a3⟩
  · refine .pure hi (v := v) ?_ (by rw [a2]; exact .im a3)
    simp [execOp, hop, hv, hv2, Instr.lookup, run_underlying hu, run_getObj_map q4, checkKey_str hkt, Instr.findKey, run_underlying hkt, a1]
  · have hzi := (cLeaf_im (w := w) (I := I) hz).1
    refine .pure hi (v := zv) ?_ (by rw [a2]; exact .im hzi)
    simp [execOp, hop, hv, hv2, Instr.lookup, run_underlying hu, run_getObj_map q4, checkKey_str hkt, Instr.findKey, run_underlying hkt, a1, zeroValue, typeInfo, z1, z2]
theorem mput_ok (hi : Inv B w0 I μ h w) (ho : OpsOk w I μ e ρ) {o : Oper} {t kt et : TypeId} {x x2 x3 : Operand} (hop : o.op = .mapUpdate t x x2 x3 ∨ o.op = .insert t x x2 x3) (hu : P.underlying t = some (.map kt et)) (hkt : P.underlying kt = some .string) {y y2 y3 : X} (hx : cX x = some y) (hx2 : cX x2 = some y2) (hx3 : cX x3 = some y3)
    {l : Nat} {s : ByteArray} {es : List (ByteArray × D)} (hl : y.ev e = .mpr l) (hs : y2.ev e = .str s) (hob : h l = .mp es) (him : (y3.ev e).im = true) : Res P B w0 I μ w k (execOp ρ o) .und (hput h l (.mp (mset s (y3.ev e) es))) := by
  have r1 := ho x y hx
  have r2 := ho x2 y2 hx2
  have r3 := (ho x3 y3 hx3).im_of him
  rw [hl] at r1
  rw [hs] at r2
  obtain ⟨p, b, p1, p2, hv⟩ := r1.mpr_inv
  have hv2 := r2.str_inv
  have hoo := hi.ob l
  rw [hob] at hoo
  obtain ⟨p', b', ens, clk, q1, q2, q3, q4, q5, q6⟩ := hoo
  rw [p1] at q1; obtain rfl := Option.some.inj q1; rw [p2] at q2; obtain rfl := Option.some.inj q2
  have hlt : b < w.heap.size := (Array.getElem?_eq_some_iff.1 q4).1
  have fin : ∀ (ens' : List MapEntry) (clk' : Nat), MpOk w I (mset s (y3.ev e) es) ens' → (Instr.mapUpdate t (.map (some b)) (.string s) (ρ x3)).run P w = .ok () { w with heap := w.heap.setIfInBounds b (.map ens'.toArray clk') } → Res P B w0 I μ w k (execOp ρ o) .und (hput h l (.mp (mset s (y3.ev e) es))) := by
    intro ens' clk' hm hr
    have g : Go1 I I μ μ w { w with heap := w.heap.setIfInBounds b (.map ens'.toArray clk') } := ⟨fun _ h => h, fun c hc => by
      have : b ≠ c := fun e => q6 (e ▸ hc)
      simp [Array.getElem?_setIfInBounds_ne this], fun _ _ h => h⟩
    have hbel : Below B w { w with heap := w.heap.setIfInBounds b (.map ens'.toArray clk') } := ⟨rfl, rfl, rfl, by simp, fun c hc => by
      have : b ≠ c := by omega
      simp [Array.getElem?_setIfInBounds_ne this]⟩
    refine ⟨.skip, undef, _, I, μ, ?_, .inr ⟨rfl, rfl⟩, .im .und, ?_, g, fun _ h _ => h, fun _ h => .inl h⟩
    · rcases hop with hop | hop <;> simp [execOp, hop, hv, hv2, hr]
    · refine hi.put g hbel (fun c hc => by simpa using hi.lt c hc) (l := l) (o := .mp (mset s (y3.ev e) es)) _ (fun j hj => .inl (hput_ne h _ hj)) (hput_same h l _) ?_ ?_
      · exact ⟨p, b, ens', clk', p1, p2, q3, by simp [hlt], ⟨hm.1, fun j k d en a c => ⟨(hm.2 j k d en a c).1, (hm.2 j k d en a c).2.go g⟩⟩, q6⟩
      · intro j q c hj _ hoj hq hqc
        obtain ⟨o1, o2, o3⟩ := (hi.ob j).lt hq hqc hoj
        have hne : b ≠ c := fun e => hi.dis j l q p c hj hoj (by rw [hob]; rfl) hq p1 hqc (by rw [← e]; exact p2)
        exact ⟨by simp [Array.getElem?_setIfInBounds_ne hne], o2, fun _ p' hp' => by rw [p1] at hp'; obtain rfl := Option.some.inj hp'; rw [p2]; intro he; exact hne (Option.some.inj he)⟩
  have hset : ∀ (ens' : List MapEntry) (clk' : Nat), (setObj b (.map ens'.toArray clk')).run P w = .ok () { w with heap := w.heap.setIfInBounds b (.map ens'.toArray clk') } := by
    intro ens' clk'
    simp only [setObj, Sem.run, q4]
  rcases find_ok s es ens 0 q5 with ⟨v, d, j, k', a1, a2, a3, a4, a5, a6⟩ | ⟨a1, a2, a3⟩
  · have hj : j < ens.length := by have := (List.getElem?_eq_some_iff.1 a4).1; rw [← q5.1]; exact this
    have hen : ens[j]? = some ens[j] := List.getElem?_eq_getElem hj
    have hkey := (q5.2 j k' d ens[j] a4 hen).1
    have hb2 : (k' == s) = true := by
      rw [beq_toListBytes] at a5 ⊢
      simp only [beq_iff_eq] at a5 ⊢
      exact a5.symm
    refine fin (ens.modify j fun en => { en with key := .string s, val := ρ x3 }) clk ?_ ?_
    · rw [a6]
      refine ⟨by simp [q5.1], fun i k d en ha hb => ?_⟩
      rw [List.getElem?_set] at ha
      rw [List.getElem?_modify] at hb
      by_cases hij : j = i
      · subst hij
        rw [if_pos rfl] at ha
        split at ha
        · obtain ⟨rfl, rfl⟩ := Prod.mk.inj (Option.some.inj ha)
          rw [hen] at hb
          simp at hb
          subst hb
          exact ⟨rfl, r3⟩
        · cases ha
      · rw [if_neg hij] at ha
        simp [hij] at hb
        exact q5.2 i k d en ha hb
    · simp only [Nat.zero_add] at a1
      have hkt2 : (Instr.keyThatStays (.string k') (.string s)).run P w = .ok (.string s) w := by
        simp [Instr.keyThatStays, Instr.sameBits, hb2]
      simp [Instr.mapUpdate, run_underlying hu, run_getObj_map q4, checkKey_str hkt, Instr.findKey, run_underlying hkt, a1, hen, hkey, hkt2]
      have := hset (ens.modify j fun en => { en with key := .string s, val := ρ x3 }) clk
      simpa using this
  · refine fin (ens ++ [{ key := .string s, val := ρ x3, born := clk }]) (clk + 1) ?_ ?_
    · rw [a3]
      refine ⟨by simp [q5.1], fun i k d en ha hb => ?_⟩
      rcases Nat.lt_trichotomy i es.length with hlt | heq | hgt
      · rw [List.getElem?_append_left hlt] at ha
        rw [List.getElem?_append_left (by rw [← q5.1]; exact hlt)] at hb
        exact q5.2 i k d en ha hb
      · subst heq
        rw [List.getElem?_append_right (Nat.le_refl _)] at ha
        rw [List.getElem?_append_right (by rw [q5.1]; exact Nat.le_refl _)] at hb
        simp [q5.1] at ha hb
        obtain ⟨rfl, rfl⟩ := ha
        subst hb
        exact ⟨rfl, r3⟩
      · rw [List.getElem?_eq_none (by simp; omega)] at ha
        cases ha
    · simp [Instr.mapUpdate, run_underlying hu, run_getObj_map q4, checkKey_str hkt, Instr.findKey, run_underlying hkt, a1]
      have := hset (ens ++ [{ key := .string s, val := ρ x3, born := clk }]) (clk + 1)
      simpa using this
end
end Go.Proofs.Ytbpccdengeakgaa.AE
