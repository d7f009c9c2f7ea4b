/-
  regexec: variables that hold lists of numbers; the law Joins.
-/
import Derived.Test.YtpdamhhaepcffaaMD
import Derived.Test.YtpdamhhaepcffaaME
set_option linter.unusedVariables false
set_option linter.unusedSimpArgs false
set_option maxHeartbeats 8000000
set_option maxRecDepth 100000
namespace Go.Proofs.Ytpdamhhaepcffaa.AE
open Go
/-- v holds the list l; its name, if any, is below B. -/
def LV (h : Hp) (B : Nat) (v : D) (l : List Int) : Prop := (v = .nls ∧ l = []) ∨ ∃ o, v = .osl o ∧ o < B ∧ h o = .row 3 1 (bi l) true
theorem LV.put {h : Hp} {B m : Nat} {v : D} {l : List Int} {ob : Ob} (hv : LV h B v l) (hm : B ≤ m) : LV (hput h m ob) B v l := by
  rcases hv with hv | ⟨o, h1, h2, h3⟩
  · exact .inl hv
  · exact .inr ⟨o, h1, h2, by rw [hput_ne _ _ (by omega)]; exact h3⟩
theorem LV.up {h : Hp} {B B' : Nat} {v : D} {l : List Int} (hv : LV h B v l) (hm : B ≤ B') : LV h B' v l := by
  rcases hv with hv | ⟨o, h1, h2, h3⟩
  · exact .inl hv
  · exact .inr ⟨o, h1, by omega, h3⟩
theorem LV.elems {h : Hp} {B : Nat} {v : D} {l : List Int} (hv : LV h B v l) : AE.elems h v = some (bi l) := by
  rcases hv with ⟨rfl, rfl⟩ | ⟨o, rfl, h2, h3⟩
  · rfl
  · rw [elems_osl, h3]; rfl
theorem LV.frz {h : Hp} {B : Nat} {v : D} {l : List Int} (hv : LV h B v l) : ∃ w h2, AE.frz (8 + 1) h v = some (w, h2) ∧ IsI w l := by
  rcases hv with ⟨rfl, rfl⟩ | ⟨o, rfl, h2, h3⟩
  · exact ⟨_, _, rfl, .inr ⟨rfl, rfl⟩⟩
  · exact ⟨.isl (bi l), _, by rw [frz_osl, h3]; rfl, .inl rfl⟩
theorem LV.at_ {h : Hp} {B : Nat} {v : D} {l : List Int} (hv : LV h B v l) {j : Nat} {x : Int} (hx : l[j]? = some x) : ∃ p, iaD h 1 j v = some (p, h) ∧ cellsAt h 1 p = some [.int .i64 x] := by
  rcases hv with ⟨rfl, rfl⟩ | ⟨o, rfl, h2, h3⟩
  · cases hx
  · have hj := (List.getElem?_eq_some_iff.1 hx).1
    have hb : (bi l)[j]? = some [.int .i64 x] := by rw [bi_at, hx]; rfl
    refine ⟨.ptr o j 0, ?_, ?_⟩
    · rw [iaD_osl, h3]
      simp only [iaOb, bi_len, hj, and_self, if_true]
    · rw [cellsAt_ptr, h3]
      simp only [cellsOb, hb]
      rfl
def hasB (l : List Int) (k : Int) : Bool := l.any fun y => decide (y = k)
theorem hasB_iff {l : List Int} {k : Int} : hasB l k = true ↔ k ∈ l := by
  unfold hasB
  rw [List.any_eq_true]
  constructor
  · rintro ⟨x, h1, h2⟩
    rw [← of_decide_eq_true h2]; exact h1
  · intro h; exact ⟨k, h, by simp⟩
theorem bool_iff {a b : Bool} (h : a = true ↔ b = true) : a = b := by cases a <;> cases b <;> simp_all
theorem mem_ends {r : Rx} {s : ByteArray} {i k : Int} : k ∈ endsL r s i ↔ 0 ≤ i ∧ i ≤ s.size ∧ rightE r = 0 ∧ ∃ j : Nat, k = j ∧ j < s.size + 1 ∧ r.R s i.toNat j := by
  unfold endsL
  split
  · rename_i hc
    simp only [Bool.and_eq_true, decide_eq_true_eq] at hc
    obtain ⟨c1, c2, c3⟩ := hc
    rw [mem_onL]
    constructor
    · rintro ⟨j, h1, h2, h3⟩
      exact ⟨c1, c2, c3, j, h1, h2, ((on_im1 (by omega)).1 h3).2⟩
    · rintro ⟨_, _, _, j, h1, h2, h3⟩
      exact ⟨j, h1, h2, (on_im1 (by omega)).2 ⟨h2, h3⟩⟩
  · rename_i hc
    simp only [Bool.and_eq_true, decide_eq_true_eq] at hc
    constructor
    · intro h; cases h
    · rintro ⟨h1, h2, h3, _⟩; exact absurd ⟨h1, h2, h3⟩ hc
/-! ### sizes -/
mutual
theorem size_ok : ∀ r : Rx, r.nodes < 4000000000000000000 → (sizeE r).1 = r.nodes ∧ 0 ≤ (sizeE r).2 ∧ (sizeE r).2 ≤ r.nodes
  | .mk k z set mn mx subs, h => by
    rw [Rx.nodes] at h
    have h1 := sizes_ok subs 1 0 (by omega) (by omega) (by omega) (by omega)
    rw [sizeE, Rx.nodes]
    dsimp only
    rw [wrapN (by omega) (by omega)]
    refine ⟨by rw [h1.1]; omega, by omega, by omega⟩
theorem sizes_ok : ∀ (l : List Rx) (a d : Int), 1 ≤ a → a + Rx.nodesL l < 4000000000000000001 → 0 ≤ d → d ≤ 4000000000000000000 → (sizesE l (a, d)).1 = a + Rx.nodesL l ∧ d ≤ (sizesE l (a, d)).2 ∧ ((sizesE l (a, d)).2 ≤ d ∨ (sizesE l (a, d)).2 ≤ Rx.nodesL l)
  | [], a, d, ha, h, hd, hd2 => by
    rw [sizesE, Rx.nodesL]
    simp
  | r :: q, a, d, ha, h, hd, hd2 => by
    rw [Rx.nodesL] at h
    have h1 := size_ok r (by omega)
    have h2 := sizes_ok q (a + r.nodes) (max d (sizeE r).2) (by omega) (by omega) (by omega) (by omega)
    rw [sizesE, Rx.nodesL]
    dsimp only
    rw [h1.1, wrapN (by omega) (by omega)]
    refine ⟨by rw [h2.1]; omega, by omega, ?_⟩
    rcases h2.2.2 with h3 | h3 <;> omega
end
theorem right_inv {r : Rx} : rightE r = 0 ↔ nodeE r = 0 ∧ (sizeE r).1 ≤ 40 ∧ (sizeE r).2 ≤ 12 := by
  unfold rightE
  constructor
  · intro h
    split at h
    · rename_i h0
      split at h
      · cases h
      · rename_i h1
        simp only [Bool.or_eq_true, decide_eq_true_eq, not_or] at h1
        exact ⟨of_decide_eq_true h0, by omega, by omega⟩
    · rename_i h0
      exact absurd (decide_eq_true h) h0
  · rintro ⟨h0, h1, h2⟩
    rw [if_pos (decide_eq_true h0), if_neg]
    simp only [Bool.or_eq_true, decide_eq_true_eq, not_or]
    omega
theorem node_inv {k : Int} {z : Bool} {set : List (Int × Int)} {mn mx : Int} {subs : List Rx} (h : nodeE (.mk k z set mn mx subs) = 0) : nodesE subs = 0 := by
  rw [nodeE] at h
  split at h
  · cases h
  split at h
  · cases h
  split at h
  · cases h
  · exact h
theorem right_two {k : Int} {z : Bool} {x y : Rx} (hn : x.nodes + y.nodes ≤ 1048576) (h : rightE (.mk k z [] 0 0 [x, y]) = 0) : rightE x = 0 ∧ rightE y = 0 := by
  obtain ⟨h0, h1, h2⟩ := right_inv.1 h
  have h3 := nodes_all (node_inv h0)
  have s0 := size_ok (.mk k z [] 0 0 [x, y]) (by simp only [Rx.nodes, Rx.nodesL]; omega)
  have sx := size_ok x (by omega)
  have sy := size_ok y (by omega)
  have e1 : (sizeE (.mk k z [] 0 0 [x, y])).2 = IntKind.i64.wrap (max (max 0 (sizeE x).2) (sizeE y).2 + 1) := by
    rw [sizeE, sizesE, sizesE, sizesE]
  rw [wrapN (by omega) (by omega)] at e1
  rw [s0.1] at h1
  simp only [Rx.nodes, Rx.nodesL] at h1
  exact ⟨right_inv.2 ⟨h3 x (by simp), by omega, by omega⟩, right_inv.2 ⟨h3 y (by simp), by omega, by omega⟩⟩
theorem right_one {mn mx : Int} {z : Bool} {x : Rx} (hn : x.nodes ≤ 1048576) (h : rightE (.mk 4 z [] mn mx [x]) = 0) : rightE x = 0 := by
  obtain ⟨h0, h1, h2⟩ := right_inv.1 h
  have h3 := nodes_all (node_inv h0)
  have s0 := size_ok (.mk 4 z [] mn mx [x]) (by simp only [Rx.nodes, Rx.nodesL]; omega)
  have sx := size_ok x (by omega)
  have e1 : (sizeE (.mk 4 z [] mn mx [x])).2 = IntKind.i64.wrap (max 0 (sizeE x).2 + 1) := by
    rw [sizeE, sizesE, sizesE]
  rw [wrapN (by omega) (by omega)] at e1
  rw [s0.1] at h1
  simp only [Rx.nodes, Rx.nodesL] at h1
  exact right_inv.2 ⟨h3 x (by simp), by omega, by omega⟩
theorem isI_has {v : D} {l : List Int} (hv : IsI v l) (x : Int) (hl : l.length ≤ 1000) : callP (Lv xp md) 25 [v, .int .i64 x] = some [.bool (hasB l x)] := isI_f25 hv x hl
section
variable {s : ByteArray} {T : List D} {y : Rx} {a b c d : List Int} {va vb vc vd : D} {B : Nat}
/-- The inner loop: is k reached from one of a? -/
theorem in7b (hT : List.take 5 (List.drop 5 T) = y.cells) (hTl : 10 ≤ T.length) (hty : Rt y s) (ha : a.length ≤ 1000) (kk : Int) (e : Env) (h : Hp) (k : Nat) (Q : Ex → St → Prop) (i1 : e 1 = .str s) (i3 : e 3 = .ptr 0 0 0) (i9 : e 9 = va) (i10 : e 10 = vb) (i11 : e 11 = vc) (i12 : e 12 = vd) (i13 : e 13 = .int .i64 kk) (i14 : e 14 = .bool false) (i15 : e 15 = .int .i64 (0 : Nat)) (b0 : h 0 = .var T true)
    (ha9 : LV h B va a) (hb10 : LV h B vb b) (hc11 : LV h B vc c) (hd12 : LV h B vd d) (ik : B ≤ k) (hB : 1 ≤ B)
    (hn : ∀ (e' : Env) (h' : Hp) (k' : Nat), e' 1 = .str s → e' 3 = .ptr 0 0 0 → e' 9 = va → e' 10 = vb → e' 11 = vc → e' 12 = vd → e' 13 = .int .i64 kk → e' 14 = .bool (a.any fun z => hasB (endsL y s z) kk) → h' 0 = .var T true → LV h' B va a → LV h' B vb b → LV h' B vc c → LV h' B vd d → B ≤ k' → Q .nrm ⟨e', h', k'⟩) : Rn xp md (.loop L7_0) ⟨e, h, k⟩ (Bk 2 Q) := by
  obtain ⟨xl, xi, xt, xd, xf, xc, xz⟩ := cellsF y
  have s12 := fun i => f12 y s hty i
  have hel := fun i => endsL_len y s i
  have hss := hty.hs
  refine rn_loop a.length (fun j st => st.e 1 = .str s ∧ st.e 3 = .ptr 0 0 0 ∧ st.e 9 = va ∧ st.e 10 = vb ∧ st.e 11 = vc ∧ st.e 12 = vd ∧ st.e 13 = .int .i64 kk ∧ st.e 14 = .bool ((a.take j).any fun z => hasB (endsL y s z) kk) ∧ st.e 15 = .int .i64 j ∧ st.h 0 = .var T true ∧ LV st.h B va a ∧ LV st.h B vb b ∧ LV st.h B vc c ∧ LV st.h B vd d ∧ B ≤ st.k) (j := 0) ⟨i1, i3, i9, i10, i11, i12, i13, i14, i15, b0, ha9, hb10, hc11, hd12, ik⟩ (Nat.zero_le _) ?_
  clear i1 i3 i9 i10 i11 i12 i13 i14 i15 b0 ha9 hb10 hc11 hd12 ik e h k
  rintro j ⟨e, h, k⟩ hj ⟨i1, i3, i9, i10, i11, i12, i13, i14, i15, b0, ha9, hb10, hc11, hd12, ik⟩
  dsimp only at i1 i3 i9 i10 i11 i12 i13 i14 i15 b0 ha9 hb10 hc11 hd12 ik
  have hae := ha9.elems
  have hbl := bi_len a
  rcases nextC hj with ⟨hlt, c1⟩ | ⟨rfl, c1⟩
  · obtain ⟨z, hz⟩ := at_lt hlt
    obtain ⟨p, hp1, hp2⟩ := ha9.at_ hz
    have w1 := inc64 j (by omega)
    have hta : ((a.take (j + 1)).any fun z => hasB (endsL y s z) kk) = (((a.take j).any fun z => hasB (endsL y s z) kk) || hasB (endsL y s z) kk) := by
      rw [List.take_add_one, hz, List.any_append]
      simp
    have s12z := s12 z
    have hlz := hel z
    have s25 := isI_has (v := .isl (bi (endsL y s z))) (.inl rfl) kk (by omega)
    have s25n := isI_has (v := .nls) (l := []) (.inr ⟨rfl, rfl⟩) kk (by simp)
    have hz0 : bi (endsL y s z) = [] → hasB (endsL y s z) kk = false := fun h => by
      have : endsL y s z = [] := by cases hq : endsL y s z with | nil => rfl | cons a q => rw [hq] at h; simp [bi] at h
      rw [this]; rfl
    rw [show hasB [] kk = false from rfl] at s25n
    clear s12 hel hn hlz
    generalize ((a.take (j + 1)).any fun z => hasB (endsL y s z) kk) = R' at *
    generalize ((a.take j).any fun z => hasB (endsL y s z) kk) = R0 at *
    have hfin : ∀ (e' : Env) (h' : Hp) (k' : Nat) , True := fun _ _ _ => trivial
    clear hfin
    cases R0 with
    | true =>
      rw [Bool.true_or] at hta
      subst hta
      clear s12z s25 s25n hz0
      refine gK ?_
      refine ⟨hlt, ?_, ?_, ?_, ?_, ?_, ?_, ?_, ?_, ?_, ?_, ha9, hb10, hc11, hd12, ?_⟩
      all_goals first | exact eC | exact eO | skip
    | false =>
      rw [Bool.false_or] at hta
      rw [hta]
      rcases rdX_cases 3 1 (bi (endsL y s z)) with ⟨h1, h2⟩ | ⟨h1, h2⟩
      · rw [h2] at s12z
        rw [hz0 h1]
        clear s25 hz0 hta h1 h2
        refine gK ?_
        refine ⟨hlt, ?_, ?_, ?_, ?_, ?_, ?_, ?_, ?_, ?_, ?_, ?_, ?_, ?_, ?_, ?_⟩
        all_goals first | exact eC | exact eO | (dsimp only; assumption) | skip
      · rw [h2] at s12z
        clear s25n hz0 hta h1 h2
        generalize hasB (endsL y s z) kk = R1 at *
        have n0 : ∀ c, (0 = k + c) = False := fun c => by simp; omega
        refine gK ?_
        refine ⟨hlt, ?_, ?_, ?_, ?_, ?_, ?_, ?_, ?_, ?_, ?_, ?_, ?_, ?_, ?_, ?_⟩
        all_goals first | exact eC | exact eO | (dsimp only; repeat (refine LV.put ?_ (by omega)); assumption) | skip
  · rw [List.take_length] at i14
    have hn' := fun (e' : Env) (h' : Hp) (k' : Nat) => hn e' h' k'
    clear hn s12 hel
    refine gK ?_
    exact hn' _ _ _ eC eC eC eC eC eC eC eC b0 ha9 hb10 hc11 hd12 (by omega)
theorem in7 (hT : List.take 5 (List.drop 5 T) = y.cells) (hTl : 10 ≤ T.length) (hty : Rt y s) (ha : a.length ≤ 1000) (hb : b.length ≤ 1000) (hc : c.length ≤ 1000) (hd : d.length ≤ 1000)
    (L1 : ∀ kk : Nat, kk ≤ s.size → hasB c kk = a.any fun z => hasB (endsL y s z) kk) (L2 : ∀ kk : Nat, kk ≤ s.size → hasB d kk = (hasB a kk || hasB b kk))
    (e : Env) (h : Hp) (k : Nat) (Q : Ex → St → Prop) (i1 : e 1 = .str s) (i3 : e 3 = .ptr 0 0 0) (i9 : e 9 = va) (i10 : e 10 = vb) (i11 : e 11 = vc) (i12 : e 12 = vd) (i13 : e 13 = .int .i64 (0 : Nat)) (b0 : h 0 = .var T true)
    (ha9 : LV h B va a) (hb10 : LV h B vb b) (hc11 : LV h B vc c) (hd12 : LV h B vd d) (ik : B ≤ k) (hB : 1 ≤ B)
    (hn : ∀ (e' : Env) (h' : Hp) (k' : Nat), Q .nrm ⟨e', h', k'⟩) : Rn xp md (.loop L7_1) ⟨e, h, k⟩ (Bk 0 Q) := by
  refine rn_loop (s.size + 1) (fun j st => st.e 1 = .str s ∧ st.e 3 = .ptr 0 0 0 ∧ st.e 9 = va ∧ st.e 10 = vb ∧ st.e 11 = vc ∧ st.e 12 = vd ∧ st.e 13 = .int .i64 j ∧ st.h 0 = .var T true ∧ LV st.h B va a ∧ LV st.h B vb b ∧ LV st.h B vc c ∧ LV st.h B vd d ∧ B ≤ st.k) (j := 0) ⟨i1, i3, i9, i10, i11, i12, i13, b0, ha9, hb10, hc11, hd12, ik⟩ (Nat.zero_le _) ?_
  clear i1 i3 i9 i10 i11 i12 i13 b0 ha9 hb10 hc11 hd12 ik e h k
  rintro j ⟨e, h, k⟩ hj ⟨i1, i3, i9, i10, i11, i12, i13, b0, ha9, hb10, hc11, hd12, ik⟩
  dsimp only at i1 i3 i9 i10 i11 i12 i13 b0 ha9 hb10 hc11 hd12 ik
  have hss := hty.hs
  rcases nextE hj with ⟨hle, c1⟩ | ⟨rfl, c1⟩
  · have w1 := inc64 j (by omega)
    have l1 := L1 j hle
    have l2 := L2 j hle
    have hlt : j < s.size + 1 := by omega
    have key := in7b (va := va) (vb := vb) (vc := vc) (vd := vd) (B := B) (b := b) (c := c) (d := d) hT hTl hty ha (j : Int)
    generalize (a.any fun z => hasB (endsL y s z) (j : Int)) = R at *
    have kh : Hid (_) := key
    clear key L1 L2 hT hty
    refine gK ?_
    refine kh _ _ _ _ eC eC eC eC eC eC eC eC eB b0 ha9 hb10 hc11 hd12 (by omega) hB ?_
    clear kh i1 i3 i9 i10 i11 i12 i13 b0 ha9 hb10 hc11 hd12 ik
    intro e' h' k' i1 i3 i9 i10 i11 i12 i13 i14 b0 ha9 hb10 hc11 hd12 ik
    obtain ⟨wa, ga, fa, sa⟩ := ha9.frz
    obtain ⟨wb, gb, fb, sb⟩ := hb10.frz
    obtain ⟨wc, gc, fc, sc⟩ := hc11.frz
    obtain ⟨wd, gd, fd, sd⟩ := hd12.frz
    have sa := isI_has sa (j : Int) ha
    have sb := isI_has sb (j : Int) hb
    have sc := isI_has sc (j : Int) hc
    have sd := isI_has sd (j : Int) hd
    rw [l1] at sc
    rw [l2] at sd
    clear l1 l2
    generalize hasB a (j : Int) = pa at *
    generalize hasB b (j : Int) = pb at *
    have Ha : Hid (LV h' B va a) := ha9
    have Hb : Hid (LV h' B vb b) := hb10
    have Hc : Hid (LV h' B vc c) := hc11
    have Hd : Hid (LV h' B vd d) := hd12
    clear ha9 hb10 hc11 hd12
    have dr : decide (R = R) = true := by simp
    have dp : ∀ q : Bool, decide (q = q) = true := fun q => by simp
    cases pa <;> cases pb <;> simp only [Bool.or_true, Bool.true_or, Bool.or_false] at sd
    all_goals
      refine gK ?_
      refine ⟨hlt, ?_, ?_, ?_, ?_, ?_, ?_, ?_, ?_, Ha, Hb, Hc, Hd, ?_⟩
      all_goals first | exact eC | exact eO | skip
  · have hn' := fun (e' : Env) (h' : Hp) (k' : Nat) => hn e' h' k'
    clear hn L1 L2
    refine gK ?_
    exact hn' _ _ _
end
theorem cells_imF (r : Rx) : r.cells.all D.imF = true := by
  cases r with
  | mk k z set mn mx subs =>
    rw [rx_cells]
    rcases rz_cases z set with e | ⟨e, _⟩ <;> rcases rs_cases z subs with g | ⟨g, _⟩ <;> rw [e, g] <;> rfl
theorem two_cells {k : Int} (x y : Rx) : (Rx.mk k true [] 0 0 [x, y]).cells = [.int .i64 k, .nls, .int .i64 0, .int .i64 0, .isl [x.cells, y.cells]] := by
  rw [rx_cells, rs, Rx.rows, Rx.rows, Rx.rows]
  rfl
theorem two_in {k : Int} {x y : Rx} (hx : Rx.In x) (hy : Rx.In y) : Rx.In (.mk k true [] 0 0 [x, y]) := .mk (by simp) (by simp) (by simp [hx, hy])
theorem law7 (x y : Rx) (s : ByteArray) (at_ : Int) (hx : Rx.In x) (hy : Rx.In y) (hn : x.nodes + y.nodes ≤ 1048576) : callP (Lv xp md) 7 [.agg (x.cells ++ y.cells), .str s, .int .i64 at_] = some [.bool true] := by
  have s10 := f10
  have s23 : ∀ xs : List (List D), callP (Lv xp md) 23 [.isl xs] = some [.agg [.int .i64 2, .nls, .int .i64 0, .int .i64 0, .isl xs]] := fun xs => f23 xs rfl
  have s24x := f24 _ (two_in (k := 2) hx hy)
  have s24y := f24 _ (two_in (k := 3) hx hy)
  rw [two_cells] at s24x s24y
  obtain ⟨xl, xi, xt, xd, xf, xc, xz⟩ := cellsF x
  obtain ⟨yl, yi, yt, yd, yf, yc, yz⟩ := cellsF y
  have t1 : List.take 5 (x.cells ++ y.cells) = x.cells := by rw [← xl]; exact List.take_left
  have t2 : List.take 5 (List.drop 5 (x.cells ++ y.cells)) = y.cells := by
    have : List.drop 5 (x.cells ++ y.cells) = y.cells := by rw [← xl]; exact List.drop_left
    rw [this, yt]
  have t3 : (x.cells ++ y.cells).length = 10 := by rw [List.length_append, xl, yl]
  have t4 : 10 ≤ (x.cells ++ y.cells).length := by omega
  have t6 : 5 ≤ (x.cells ++ y.cells).length := by omega
  have t5 : D.cells (.agg (x.cells ++ y.cells)) = some (x.cells ++ y.cells) := by
    rw [cells_agg, List.all_append]
    have hl : ∀ r : Rx, r.cells.all D.leaf = true := fun r => by
      cases r with
      | mk a b c d e f => rw [rx_cells]; simp only [go_sem, ↓reduceIte, Nat.reduceEqDiff, Nat.reduceAdd, Nat.reduceMul, Nat.reduceSub, Nat.reduceLT, Nat.reduceLeDiff, Int.reduceEq, Int.reduceLT, Int.reduceLE, Int.reduceNeg, Int.reduceAdd, Int.reduceSub, reduceCtorEq]
    rw [hl x, hl y]
    rfl
  have xF := cells_imF x
  have yF := cells_imF y
  rcases Nat.lt_or_ge 60 s.size with h | h
  · have c1 : decide ((60 : Int) < (s.size : Int)) = true := decide_eq_true (by omega)
    generalize x.cells ++ y.cells = T at *
    refine fn_v (F := F7) rfl ?_
    exact gD
  have c1 : decide ((60 : Int) < (s.size : Int)) = false := decide_eq_false (by omega)
  cases r1 : decide (rightE (.mk 2 true [] 0 0 [x, y]) = 0) with
  | false =>
    generalize x.cells ++ y.cells = T at *
    generalize rightE (.mk 2 true [] 0 0 [x, y]) = v1 at *
    refine fn_v (F := F7) rfl ?_
    exact gD
  | true =>
    cases r2 : decide (rightE (.mk 3 true [] 0 0 [x, y]) = 0) with
    | false =>
      generalize x.cells ++ y.cells = T at *
      generalize rightE (.mk 2 true [] 0 0 [x, y]) = v1 at *
      generalize rightE (.mk 3 true [] 0 0 [x, y]) = v2 at *
      refine fn_v (F := F7) rfl ?_
      exact gD
    | true =>
      have r1 := of_decide_eq_true r1
      have r2 := of_decide_eq_true r2
      obtain ⟨rx, ry⟩ := right_two hn r1
      have q1 := f12 x s (rt_of hx h) at_
      have q2 := f12 y s (rt_of hy h) at_
      have q3 := f12 _ s (rt_of (two_in (k := 2) hx hy) h) at_
      have q4 := f12 _ s (rt_of (two_in (k := 3) hx hy) h) at_
      rw [two_cells] at q3 q4
      rw [r1] at s24x
      rw [r2] at s24y
      have l1 := endsL_len x s at_
      have l2 := endsL_len y s at_
      have l3 := endsL_len (.mk 2 true [] 0 0 [x, y]) s at_
      have l4 := endsL_len (.mk 3 true [] 0 0 [x, y]) s at_
      have L1 : ∀ kk : Nat, kk ≤ s.size → hasB (endsL (.mk 2 true [] 0 0 [x, y]) s at_) kk = (endsL x s at_).any fun z => hasB (endsL y s z) kk := by
        intro kk hk
        refine bool_iff ?_
        rw [hasB_iff, mem_ends, List.any_eq_true]
        constructor
        · rintro ⟨h1, h2, _, j, h3, h4, h5⟩
          obtain rfl : kk = j := by omega
          rw [rx_R2] at h5
          simp only [seqR, cmp] at h5
          obtain ⟨q, h6, q', h7, rfl⟩ := h5
          have hq := Rx.wf s x _ q (by omega) h6
          refine ⟨(q : Int), mem_ends.2 ⟨h1, h2, rx, q, rfl, hq.2, h6⟩, ?_⟩
          exact hasB_iff.2 (mem_ends.2 ⟨by omega, by omega, ry, _, rfl, h4, by rw [Int.toNat_natCast]; exact h7⟩)
        · rintro ⟨z, hz, hz2⟩
          obtain ⟨h1, h2, _, q, rfl, h4, h5⟩ := mem_ends.1 hz
          obtain ⟨_, _, _, j, h6, h7, h8⟩ := mem_ends.1 (hasB_iff.1 hz2)
          obtain rfl : kk = j := by omega
          rw [Int.toNat_natCast] at h8
          refine ⟨h1, h2, r1, _, rfl, h7, ?_⟩
          rw [rx_R2]
          simp only [seqR, cmp]
          exact ⟨q, h5, _, h8, rfl⟩
      have L2 : ∀ kk : Nat, kk ≤ s.size → hasB (endsL (.mk 3 true [] 0 0 [x, y]) s at_) kk = (hasB (endsL x s at_) kk || hasB (endsL y s at_) kk) := by
        intro kk hk
        refine bool_iff ?_
        rw [Bool.or_eq_true, hasB_iff, hasB_iff, hasB_iff, mem_ends, mem_ends, mem_ends, rx_R3]
        simp only [altR, or_false]
        constructor
        · rintro ⟨h1, h2, _, j, h3, h4, h5 | h5⟩
          · exact .inl ⟨h1, h2, rx, j, h3, h4, h5⟩
          · exact .inr ⟨h1, h2, ry, j, h3, h4, h5⟩
        · rintro (⟨h1, h2, _, j, h3, h4, h5⟩ | ⟨h1, h2, _, j, h3, h4, h5⟩)
          · exact ⟨h1, h2, r2, j, h3, h4, .inl h5⟩
          · exact ⟨h1, h2, r2, j, h3, h4, .inr h5⟩
      have key := fun va vb vc vd B => in7 (va := va) (vb := vb) (vc := vc) (vd := vd) (B := B) t2 t4 (rt_of hy h) (show (endsL x s at_).length ≤ 1000 by omega) (show (endsL y s at_).length ≤ 1000 by omega) (show (endsL (.mk 2 true [] 0 0 [x, y]) s at_).length ≤ 1000 by omega) (show (endsL (.mk 3 true [] 0 0 [x, y]) s at_).length ≤ 1000 by omega) L1 L2
      have kh : Hid (_) := key
      clear key L1 L2 l1 l2 l3 l4 r1 r2 rx ry hn hx hy
      have ea := rdX_cases 3 1 (bi (endsL x s at_))
      have eb := rdX_cases 3 1 (bi (endsL y s at_))
      have ec := rdX_cases 3 1 (bi (endsL (.mk 2 true [] 0 0 [x, y]) s at_))
      have ed := rdX_cases 3 1 (bi (endsL (.mk 3 true [] 0 0 [x, y]) s at_))
      generalize x.cells ++ y.cells = T at *
      generalize endsL x s at_ = a at *
      generalize endsL y s at_ = b at *
      generalize endsL (.mk 2 true [] 0 0 [x, y]) s at_ = c at *
      generalize endsL (.mk 3 true [] 0 0 [x, y]) s at_ = d at *
      have bz : ∀ l : List Int, bi l = [] → l = [] := fun l h => by cases l with | nil => rfl | cons a q => simp [bi] at h
      refine fn_v (F := F7) rfl ?_
      rcases ea with ⟨a1, a2⟩ | ⟨a1, a2⟩ <;> rcases eb with ⟨b1, b2⟩ | ⟨b1, b2⟩ <;> rcases ec with ⟨g1, g2⟩ | ⟨g1, g2⟩ <;> rcases ed with ⟨d1, d2⟩ | ⟨d1, d2⟩
      all_goals
        rw [a2] at q1
        rw [b2] at q2
        rw [g2] at q3
        rw [d2] at q4
        have A1 : Hid (_) := a1
        have B1 : Hid (_) := b1
        have G1 : Hid (_) := g1
        have D1 : Hid (_) := d1
        clear a1 a2 b1 b2 g1 g2 d1 d2
        refine gK ?_
        refine kh _ _ _ _ 440 _ _ _ _ eA eA eB eB eB eB eB eA ?_ ?_ ?_ ?_ (by omega) (by omega) ?_
        · first | exact .inl ⟨rfl, bz _ A1⟩ | exact .inr ⟨_, rfl, by omega, eA⟩
        · first | exact .inl ⟨rfl, bz _ B1⟩ | exact .inr ⟨_, rfl, by omega, eA⟩
        · first | exact .inl ⟨rfl, bz _ G1⟩ | exact .inr ⟨_, rfl, by omega, eA⟩
        · first | exact .inl ⟨rfl, bz _ D1⟩ | exact .inr ⟨_, rfl, by omega, eA⟩
        · intro e' h' k'
          clear kh
          exact gD
end Go.Proofs.Ytpdamhhaepcffaa.AE
/-
  regexec: lists made without repeats; the loops of the law Repeats.
-/
set_option linter.unusedVariables false
set_option linter.unusedSimpArgs false
set_option maxHeartbeats 8000000
set_option maxRecDepth 100000
namespace Go.Proofs.Ytpdamhhaepcffaa.AE
open Go
def addL (acc xs : List Int) : List Int := xs.foldl (fun a x => if hasB a x then a else a ++ [x]) acc
theorem addL_take {acc xs : List Int} {j : Nat} {x : Int} (h : xs[j]? = some x) : addL acc (xs.take (j + 1)) = if hasB (addL acc (xs.take j)) x then addL acc (xs.take j) else addL acc (xs.take j) ++ [x] := by
  unfold addL
  rw [List.take_add_one, h, List.foldl_append]
  rfl
theorem mem_addL {k : Int} : ∀ {xs acc : List Int}, k ∈ addL acc xs ↔ k ∈ acc ∨ k ∈ xs
  | [], acc => by simp [addL]
  | x :: xs, acc => by
    show k ∈ addL (if hasB acc x then acc else acc ++ [x]) xs ↔ _
    rw [mem_addL]
    split
    · rename_i h
      have := hasB_iff.1 h
      constructor
      · rintro (h | h)
        · exact .inl h
        · exact .inr (by simp [h])
      · rintro (h | h)
        · exact .inl h
        · rcases List.mem_cons.1 h with rfl | h
          · exact .inl this
          · exact .inr h
    · simp only [List.mem_append, List.mem_cons, List.not_mem_nil, or_false, or_assoc]
theorem nodup_addL : ∀ {xs acc : List Int}, acc.Nodup → (addL acc xs).Nodup
  | [], acc, h => h
  | x :: xs, acc, h => by
    show (addL (if hasB acc x then acc else acc ++ [x]) xs).Nodup
    refine nodup_addL ?_
    split
    · exact h
    · rename_i hx
      rw [List.nodup_append]
      refine ⟨h, by simp, fun a ha b hb => ?_⟩
      simp only [List.mem_singleton] at hb
      subst hb
      rintro rfl
      exact hx (hasB_iff.2 ha)
theorem sub_len : ∀ {l l' : List Int}, l.Nodup → (∀ x ∈ l, x ∈ l') → l.length ≤ l'.length
  | [], l', _, _ => by simp
  | x :: q, l', hn, hs => by
    obtain ⟨a, b, rfl⟩ := List.append_of_mem (hs x (by simp))
    rw [List.nodup_cons] at hn
    have := sub_len (l := q) (l' := a ++ b) hn.2 (fun y hy => by
      have h1 := hs y (by simp [hy])
      simp only [List.mem_append, List.mem_cons] at h1 ⊢
      rcases h1 with h1 | rfl | h1
      · exact .inl h1
      · exact absurd hy hn.1
      · exact .inr h1)
    simp only [List.length_append, List.length_cons] at this ⊢
    omega
theorem bnd_len {l : List Int} {n : Nat} (hn : l.Nodup) (h : ∀ x ∈ l, 0 ≤ x ∧ x < n) : l.length ≤ n := by
  have := sub_len (l := l) (l' := (List.range n).map fun (i : Nat) => (i : Int)) hn (fun x hx => by
    obtain ⟨h1, h2⟩ := h x hx
    rw [List.mem_map]
    exact ⟨x.toNat, List.mem_range.2 (by omega), by omega⟩)
  simpa using this
/-- Not the same list. -/
def Dj (v w : D) : Prop := ∀ o, v = .osl o → w ≠ .osl o
def Frm (h : Hp) (k : Nat) (v : D) (h' : Hp) : Prop := ∀ o, o < k → v ≠ .osl o → h' o = h o
theorem LV.frm {h h' : Hp} {k k' : Nat} {u v : D} {l : List Int} (hu : LV h k u l) (hd : Dj u v) (hf : Frm h k v h') (hk : k ≤ k') : LV h' k' u l := by
  rcases hu with hu | ⟨o, h1, h2, h3⟩
  · exact .inl hu
  · exact .inr ⟨o, h1, by omega, by rw [hf o h2 (hd o h1)]; exact h3⟩
theorem LV.nvar {h : Hp} {k o : Nat} {v : D} {l : List Int} {cs : List D} {q : Bool} (hv : LV h k v l) (ho : h o = .var cs q) : v ≠ .osl o := by
  rintro rfl
  rcases hv with ⟨h1, _⟩ | ⟨o', h1, _, h3⟩
  · cases h1
  · cases h1
    rw [ho] at h3
    cases h3
/-- The list w has grown out of v. -/
def Gr (k0 : Nat) (v w : D) : Prop := w = v ∨ ∃ o, w = .osl o ∧ k0 ≤ o
theorem Gr.dj {h : Hp} {k0 : Nat} {u v w : D} {l : List Int} (hg : Gr k0 v w) (hu : LV h k0 u l) (hd : Dj u v) : Dj u w := by
  rcases hg with rfl | ⟨o, rfl, ho⟩
  · exact hd
  · intro o' h1 h2
    rcases hu with ⟨h3, _⟩ | ⟨o2, h3, h4, _⟩
    · rw [h3] at h1; cases h1
    · rw [h3] at h1
      cases h1; cases h2
      omega
section
variable {v10 v12 v15 v17 : D} {l acc es : List Int} {y1 y3 y5 y7 y9 y10 y11 y12 y13 y15 y16 : D}
theorem in8a (hl : l.length ≤ 100) (hacc : ∀ j, (addL acc (l.take j)).length ≤ 200) (e : Env) (h : Hp) (k : Nat) (Q : Ex → St → Prop) (i1 : e 1 = y1) (i3 : e 3 = y3) (i5 : e 5 = y5) (i7 : e 7 = y7) (i9 : e 9 = y9) (i11 : e 11 = y11) (i13 : e 13 = y13) (i10 : e 10 = v10) (i12 : e 12 = v12) (i14 : e 14 = .int .i64 (0 : Nat))
    (h10 : LV h k v10 l) (h12 : LV h k v12 acc) (dj : Dj v10 v12)
    (hn : ∀ (e' : Env) (h' : Hp) (k' : Nat), e' 1 = y1 → e' 3 = y3 → e' 5 = y5 → e' 7 = y7 → e' 9 = y9 → e' 11 = y11 → e' 13 = y13 → e' 10 = v10 → LV h' k' (e' 12) (addL acc l) → Gr k v12 (e' 12) → Frm h k v12 h' → k ≤ k' → Q .nrm ⟨e', h', k'⟩) : Rn xp md (.loop L8_0) ⟨e, h, k⟩ (Bk 2 Q) := by
  refine rn_loop l.length (fun j st => st.e 1 = y1 ∧ st.e 3 = y3 ∧ st.e 5 = y5 ∧ st.e 7 = y7 ∧ st.e 9 = y9 ∧ st.e 11 = y11 ∧ st.e 13 = y13 ∧ st.e 10 = v10 ∧ st.e 14 = .int .i64 j ∧ LV st.h st.k (st.e 12) (addL acc (l.take j)) ∧ Gr k v12 (st.e 12) ∧ Frm h k v12 st.h ∧ k ≤ st.k) (j := 0) ⟨i1, i3, i5, i7, i9, i11, i13, i10, i14, by dsimp only; rw [i12]; exact h12, .inl i12, fun o _ _ => rfl, Nat.le_refl _⟩ (Nat.zero_le _) ?_
  generalize hk0 : k = k0 at *
  generalize hh0 : h = h0 at *
  clear i1 i3 i5 i7 i9 i11 i13 i10 i14 i12 hk0 hh0 e h k
  rintro j ⟨e, h, k⟩ hj ⟨i1, i3, i5, i7, i9, i11, i13, i10, i14, hA, hg, hf, ik⟩
  dsimp only at i1 i3 i5 i7 i9 i11 i13 i10 i14 hA hg hf ik
  have g10 := h10.frm dj hf ik
  have d10 := hg.dj h10 dj
  have hae := g10.elems
  have hbl := bi_len l
  rcases nextC hj with ⟨hlt, c1⟩ | ⟨rfl, c1⟩
  · obtain ⟨x, hx⟩ := at_lt hlt
    obtain ⟨p, hp1, hp2⟩ := g10.at_ hx
    have w1 := inc64 j (by omega)
    have hta := addL_take (acc := acc) hx
    have hal := hacc j
    obtain ⟨wA, hA2, fA, sA⟩ := hA.frz
    have s25 := isI_has sA x (by omega)
    generalize hAe : addL acc (l.take j) = A at *
    cases hb : hasB A x with
    | true =>
      rw [hb] at s25
      rw [hb, if_pos rfl] at hta
      have hAh : Hid (_) := hA
      have hgh : Hid (_) := hg
      generalize e12 : e 12 = v at *
      clear hn hacc hA hg hAe h10 h12 hb g10 d10
      refine gK ?_
      refine ⟨hlt, ?_, ?_, ?_, ?_, ?_, ?_, ?_, ?_, ?_, ?_, ?_, hf, ?_⟩
      all_goals first | exact eC | exact eO | skip
      · rw [hta]
        simp only [go_sem, ↓reduceIte, Nat.reduceEqDiff, Nat.reduceAdd, Nat.reduceMul, Nat.reduceSub, Nat.reduceLT, Nat.reduceLeDiff, Int.reduceEq, Int.reduceLT, Int.reduceLE, Int.reduceNeg, Int.reduceAdd, Int.reduceSub, reduceCtorEq, e12]
        exact (show LV _ _ _ _ from hAh).up (by omega)
      · simp only [go_sem, ↓reduceIte, Nat.reduceEqDiff, Nat.reduceAdd, Nat.reduceMul, Nat.reduceSub, Nat.reduceLT, Nat.reduceLeDiff, Int.reduceEq, Int.reduceLT, Int.reduceLE, Int.reduceNeg, Int.reduceAdd, Int.reduceSub, reduceCtorEq, e12]
        exact hgh
    | false =>
      rw [hb] at s25
      rw [hb, if_neg (by simp)] at hta
      have u1 := bi_all A
      have u2 := own_lim (x := A.length) (by omega)
      have u4 := bi_len A
      have u3 : bi A ++ [[D.int .i64 x]] = bi (A ++ [x]) := bi_app A x
      rw [← hta] at u3
      rcases g10 with ⟨_, h1⟩ | ⟨o1, rfl, b1, b2⟩
      · rw [h1] at hx; cases hx
      have hbj : (bi l)[j]? = some [.int .i64 x] := by rw [bi_at, hx]; rfl
      have m1 : ∀ c, (k + c = o1) = False := fun c => by simp; omega
      have m2 : ∀ c, (o1 = k + c) = False := fun c => by simp; omega
      have hgh : Hid (_) := hg
      have hfh : Hid (_) := hf
      rcases hA with ⟨e3, hO⟩ | ⟨o, e3, o2, ho⟩
      · rw [hO] at u3
        rw [show bi [] = [] from rfl, List.nil_append] at u3
        rw [e3, show frz (8 + 1) h .nls = some (.nls, h) from rfl] at fA
        cases fA
        have u3h : Hid (_) := u3
        clear hn hacc hg hf hAe h10 h12 hb d10 u1 u2 u4 u3 sA hO
        refine gK ?_
        refine ⟨hlt, ?_, ?_, ?_, ?_, ?_, ?_, ?_, ?_, ?_, ?_, ?_, ?_, ?_⟩
        all_goals first | exact eC | exact eO | skip
        · refine .inr ⟨k + 136, by simp only [go_sem, ↓reduceIte, Nat.reduceEqDiff, Nat.reduceAdd, Nat.reduceMul, Nat.reduceSub, Nat.reduceLT, Nat.reduceLeDiff, Int.reduceEq, Int.reduceLT, Int.reduceLE, Int.reduceNeg, Int.reduceAdd, Int.reduceSub, reduceCtorEq], by simp only; omega, ?_⟩
          rw [← (show _ = _ from u3h)]
          simp only [go_sem, ↓reduceIte, Nat.reduceEqDiff, Nat.reduceAdd, Nat.reduceMul, Nat.reduceSub, Nat.reduceLT, Nat.reduceLeDiff, Int.reduceEq, Int.reduceLT, Int.reduceLE, Int.reduceNeg, Int.reduceAdd, Int.reduceSub, reduceCtorEq]
        · exact .inr ⟨k + 136, by simp only [go_sem, ↓reduceIte, Nat.reduceEqDiff, Nat.reduceAdd, Nat.reduceMul, Nat.reduceSub, Nat.reduceLT, Nat.reduceLeDiff, Int.reduceEq, Int.reduceLT, Int.reduceLE, Int.reduceNeg, Int.reduceAdd, Int.reduceSub, reduceCtorEq], by omega⟩
        · intro q hq1 hq2
          dsimp only
          rw [hput_ne _ _ (by omega), hput_ne _ _ (by omega)]
          exact (show Frm _ _ _ _ from hfh) q hq1 hq2
      · rw [e3, frz_osl, ho, show frzOb h o (.row 3 1 (bi A) true) = some (.isl (bi A), hput h o (.row 3 1 (bi A) false)) from rfl] at fA
        cases fA
        have m3 : ∀ c, (k + c = o) = False := fun c => by simp; omega
        have m4 : ∀ c, (o = k + c) = False := fun c => by simp; omega
        have hne : o1 ≠ o := fun he => d10 o1 rfl (by rw [e3, he])
        have m5 : (o1 = o) = False := by simp; omega
        have m6 : (o = o1) = False := by simp; omega
        have hgo : o = o := rfl
        clear hn hacc hg hf hAe h10 h12 hb d10 sA hne hgo
        refine gK ?_
        refine ⟨hlt, ?_, ?_, ?_, ?_, ?_, ?_, ?_, ?_, ?_, ?_, ?_, ?_, ?_⟩
        all_goals first | exact eC | exact eO | skip
        · refine .inr ⟨k + 136, by simp only [go_sem, ↓reduceIte, Nat.reduceEqDiff, Nat.reduceAdd, Nat.reduceMul, Nat.reduceSub, Nat.reduceLT, Nat.reduceLeDiff, Int.reduceEq, Int.reduceLT, Int.reduceLE, Int.reduceNeg, Int.reduceAdd, Int.reduceSub, reduceCtorEq], by simp only; omega, ?_⟩
          simp only [go_sem, ↓reduceIte, Nat.reduceEqDiff, Nat.reduceAdd, Nat.reduceMul, Nat.reduceSub, Nat.reduceLT, Nat.reduceLeDiff, Int.reduceEq, Int.reduceLT, Int.reduceLE, Int.reduceNeg, Int.reduceAdd, Int.reduceSub, reduceCtorEq, u3, hta]
        · exact .inr ⟨k + 136, by simp only [go_sem, ↓reduceIte, Nat.reduceEqDiff, Nat.reduceAdd, Nat.reduceMul, Nat.reduceSub, Nat.reduceLT, Nat.reduceLeDiff, Int.reduceEq, Int.reduceLT, Int.reduceLE, Int.reduceNeg, Int.reduceAdd, Int.reduceSub, reduceCtorEq], by omega⟩
        · intro q hq1 hq2
          dsimp only
          have hqo : q ≠ o := by
            rintro rfl
            rcases (show Gr _ _ _ from hgh) with h1 | ⟨o', h1, h2⟩
            · rw [e3] at h1; exact hq2 h1.symm
            · rw [e3] at h1; cases h1; omega
          rw [hput_ne _ _ (by omega), hput_ne _ _ hqo, hput_ne _ _ (by omega)]
          exact (show Frm _ _ _ _ from hfh) q hq1 hq2
  · rw [List.take_length] at hA
    have hn' := fun (e' : Env) (h' : Hp) (k' : Nat) => hn e' h' k'
    have hAh : Hid (_) := hA
    have hgh : Hid (_) := hg
    generalize e12 : e 12 = v at *
    clear hn hacc hA hg
    refine gK ?_
    refine hn' _ _ _ eC eC eC eC eC eC eC eC ?_ ?_ hf (by omega)
    · simp only [go_sem, ↓reduceIte, Nat.reduceEqDiff, Nat.reduceAdd, Nat.reduceMul, Nat.reduceSub, Nat.reduceLT, Nat.reduceLeDiff, Int.reduceEq, Int.reduceLT, Int.reduceLE, Int.reduceNeg, Int.reduceAdd, Int.reduceSub, reduceCtorEq, e12]
      exact (show LV _ _ _ _ from hAh).up (by omega)
    · simp only [go_sem, ↓reduceIte, Nat.reduceEqDiff, Nat.reduceAdd, Nat.reduceMul, Nat.reduceSub, Nat.reduceLT, Nat.reduceLeDiff, Int.reduceEq, Int.reduceLT, Int.reduceLE, Int.reduceNeg, Int.reduceAdd, Int.reduceSub, reduceCtorEq, e12]
      exact hgh
theorem in8b (hl : l.length ≤ 100) (hacc : ∀ j, (addL acc (l.take j)).length ≤ 200) (e : Env) (h : Hp) (k : Nat) (Q : Ex → St → Prop) (i1 : e 1 = y1) (i3 : e 3 = y3) (i5 : e 5 = y5) (i7 : e 7 = y7) (i9 : e 9 = y9) (i11 : e 11 = y11) (i13 : e 13 = y13) (i10 : e 10 = y10) (i12 : e 12 = y12) (i16 : e 16 = y16) (i17 : e 17 = v17) (i15 : e 15 = v15) (i18 : e 18 = .int .i64 (0 : Nat))
    (h17 : LV h k v17 l) (h15 : LV h k v15 acc) (dj : Dj v17 v15)
    (hn : ∀ (e' : Env) (h' : Hp) (k' : Nat), e' 1 = y1 → e' 3 = y3 → e' 5 = y5 → e' 7 = y7 → e' 9 = y9 → e' 11 = y11 → e' 13 = y13 → e' 10 = y10 → e' 12 = y12 → e' 16 = y16 → e' 17 = v17 → LV h' k' (e' 15) (addL acc l) → Gr k v15 (e' 15) → Frm h k v15 h' → k ≤ k' → Q .nrm ⟨e', h', k'⟩) : Rn xp md (.loop L8_1) ⟨e, h, k⟩ (Bk 6 Q) := by
  refine rn_loop l.length (fun j st => st.e 1 = y1 ∧ st.e 3 = y3 ∧ st.e 5 = y5 ∧ st.e 7 = y7 ∧ st.e 9 = y9 ∧ st.e 11 = y11 ∧ st.e 13 = y13 ∧ st.e 10 = y10 ∧ st.e 12 = y12 ∧ st.e 16 = y16 ∧ st.e 17 = v17 ∧ st.e 18 = .int .i64 j ∧ LV st.h st.k (st.e 15) (addL acc (l.take j)) ∧ Gr k v15 (st.e 15) ∧ Frm h k v15 st.h ∧ k ≤ st.k) (j := 0) ⟨i1, i3, i5, i7, i9, i11, i13, i10, i12, i16, i17, i18, by dsimp only; rw [i15]; exact h15, .inl i15, fun o _ _ => rfl, Nat.le_refl _⟩ (Nat.zero_le _) ?_
  generalize hk0 : k = k0 at *
  generalize hh0 : h = h0 at *
  clear i1 i3 i5 i7 i9 i11 i13 i10 i12 i16 i17 i18 i15 hk0 hh0 e h k
  rintro j ⟨e, h, k⟩ hj ⟨i1, i3, i5, i7, i9, i11, i13, i10, i12, i16, i17, i18, hA, hg, hf, ik⟩
  dsimp only at i1 i3 i5 i7 i9 i11 i13 i10 i12 i16 i17 i18 hA hg hf ik
  have g17 := h17.frm dj hf ik
  have d17 := hg.dj h17 dj
  have hae := g17.elems
  have hbl := bi_len l
  rcases nextC hj with ⟨hlt, c1⟩ | ⟨rfl, c1⟩
  · obtain ⟨x, hx⟩ := at_lt hlt
    obtain ⟨p, hp1, hp2⟩ := g17.at_ hx
    have w1 := inc64 j (by omega)
    have hta := addL_take (acc := acc) hx
    have hal := hacc j
    obtain ⟨wA, hA2, fA, sA⟩ := hA.frz
    have s25 := isI_has sA x (by omega)
    generalize hAe : addL acc (l.take j) = A at *
    cases hb : hasB A x with
    | true =>
      rw [hb] at s25
      rw [hb, if_pos rfl] at hta
      have hAh : Hid (_) := hA
      have hgh : Hid (_) := hg
      generalize e15 : e 15 = v at *
      clear hn hacc hA hg hAe h17 h15 hb g17 d17
      refine gK ?_
      refine ⟨hlt, ?_, ?_, ?_, ?_, ?_, ?_, ?_, ?_, ?_, ?_, ?_, ?_, ?_, ?_, hf, ?_⟩
      all_goals first | exact eC | exact eO | skip
      · rw [hta]
        simp only [go_sem, ↓reduceIte, Nat.reduceEqDiff, Nat.reduceAdd, Nat.reduceMul, Nat.reduceSub, Nat.reduceLT, Nat.reduceLeDiff, Int.reduceEq, Int.reduceLT, Int.reduceLE, Int.reduceNeg, Int.reduceAdd, Int.reduceSub, reduceCtorEq, e15]
        exact (show LV _ _ _ _ from hAh).up (by omega)
      · simp only [go_sem, ↓reduceIte, Nat.reduceEqDiff, Nat.reduceAdd, Nat.reduceMul, Nat.reduceSub, Nat.reduceLT, Nat.reduceLeDiff, Int.reduceEq, Int.reduceLT, Int.reduceLE, Int.reduceNeg, Int.reduceAdd, Int.reduceSub, reduceCtorEq, e15]
        exact hgh
    | false =>
      rw [hb] at s25
      rw [hb, if_neg (by simp)] at hta
      have u1 := bi_all A
      have u2 := own_lim (x := A.length) (by omega)
      have u4 := bi_len A
      have u3 : bi A ++ [[D.int .i64 x]] = bi (A ++ [x]) := bi_app A x
      rw [← hta] at u3
      rcases g17 with ⟨_, h1⟩ | ⟨o1, rfl, b1, b2⟩
      · rw [h1] at hx; cases hx
      have hbj : (bi l)[j]? = some [.int .i64 x] := by rw [bi_at, hx]; rfl
      have m1 : ∀ c, (k + c = o1) = False := fun c => by simp; omega
      have m2 : ∀ c, (o1 = k + c) = False := fun c => by simp; omega
      have hgh : Hid (_) := hg
      have hfh : Hid (_) := hf
      rcases hA with ⟨e3, hO⟩ | ⟨o, e3, o2, ho⟩
      · rw [hO] at u3
        rw [show bi [] = [] from rfl, List.nil_append] at u3
        rw [e3, show frz (8 + 1) h .nls = some (.nls, h) from rfl] at fA
        cases fA
        have u3h : Hid (_) := u3
        clear hn hacc hg hf hAe h17 h15 hb d17 u1 u2 u4 u3 sA hO
        refine gK ?_
        refine ⟨hlt, ?_, ?_, ?_, ?_, ?_, ?_, ?_, ?_, ?_, ?_, ?_, ?_, ?_, ?_, ?_, ?_⟩
        all_goals first | exact eC | exact eO | skip
        · refine .inr ⟨k + 136, by simp only [go_sem, ↓reduceIte, Nat.reduceEqDiff, Nat.reduceAdd, Nat.reduceMul, Nat.reduceSub, Nat.reduceLT, Nat.reduceLeDiff, Int.reduceEq, Int.reduceLT, Int.reduceLE, Int.reduceNeg, Int.reduceAdd, Int.reduceSub, reduceCtorEq], by simp only; omega, ?_⟩
          rw [← (show _ = _ from u3h)]
          simp only [go_sem, ↓reduceIte, Nat.reduceEqDiff, Nat.reduceAdd, Nat.reduceMul, Nat.reduceSub, Nat.reduceLT, Nat.reduceLeDiff, Int.reduceEq, Int.reduceLT, Int.reduceLE, Int.reduceNeg, Int.reduceAdd, Int.reduceSub, reduceCtorEq]
        · exact .inr ⟨k + 136, by simp only [go_sem, ↓reduceIte, Nat.reduceEqDiff, Nat.reduceAdd, Nat.reduceMul, Nat.reduceSub, Nat.reduceLT, Nat.reduceLeDiff, Int.reduceEq, Int.reduceLT, Int.reduceLE, Int.reduceNeg, Int.reduceAdd, Int.reduceSub, reduceCtorEq], by omega⟩
        · intro q hq1 hq2
          dsimp only
          rw [hput_ne _ _ (by omega), hput_ne _ _ (by omega)]
          exact (show Frm _ _ _ _ from hfh) q hq1 hq2
      · rw [e3, frz_osl, ho, show frzOb h o (.row 3 1 (bi A) true) = some (.isl (bi A), hput h o (.row 3 1 (bi A) false)) from rfl] at fA
        cases fA
        have m3 : ∀ c, (k + c = o) = False := fun c => by simp; omega
        have m4 : ∀ c, (o = k + c) = False := fun c => by simp; omega
        have hne : o1 ≠ o := fun he => d17 o1 rfl (by rw [e3, he])
        have m5 : (o1 = o) = False := by simp; omega
        have m6 : (o = o1) = False := by simp; omega
        have hgo : o = o := rfl
        clear hn hacc hg hf hAe h17 h15 hb d17 sA hne hgo
        refine gK ?_
        refine ⟨hlt, ?_, ?_, ?_, ?_, ?_, ?_, ?_, ?_, ?_, ?_, ?_, ?_, ?_, ?_, ?_, ?_⟩
        all_goals first | exact eC | exact eO | skip
        · refine .inr ⟨k + 136, by simp only [go_sem, ↓reduceIte, Nat.reduceEqDiff, Nat.reduceAdd, Nat.reduceMul, Nat.reduceSub, Nat.reduceLT, Nat.reduceLeDiff, Int.reduceEq, Int.reduceLT, Int.reduceLE, Int.reduceNeg, Int.reduceAdd, Int.reduceSub, reduceCtorEq], by simp only; omega, ?_⟩
          simp only [go_sem, ↓reduceIte, Nat.reduceEqDiff, Nat.reduceAdd, Nat.reduceMul, Nat.reduceSub, Nat.reduceLT, Nat.reduceLeDiff, Int.reduceEq, Int.reduceLT, Int.reduceLE, Int.reduceNeg, Int.reduceAdd, Int.reduceSub, reduceCtorEq, u3, hta]
        · exact .inr ⟨k + 136, by simp only [go_sem, ↓reduceIte, Nat.reduceEqDiff, Nat.reduceAdd, Nat.reduceMul, Nat.reduceSub, Nat.reduceLT, Nat.reduceLeDiff, Int.reduceEq, Int.reduceLT, Int.reduceLE, Int.reduceNeg, Int.reduceAdd, Int.reduceSub, reduceCtorEq], by omega⟩
        · intro q hq1 hq2
          dsimp only
          have hqo : q ≠ o := by
            rintro rfl
            rcases (show Gr _ _ _ from hgh) with h1 | ⟨o', h1, h2⟩
            · rw [e3] at h1; exact hq2 h1.symm
            · rw [e3] at h1; cases h1; omega
          rw [hput_ne _ _ (by omega), hput_ne _ _ hqo, hput_ne _ _ (by omega)]
          exact (show Frm _ _ _ _ from hfh) q hq1 hq2
  · rw [List.take_length] at hA
    have hn' := fun (e' : Env) (h' : Hp) (k' : Nat) => hn e' h' k'
    have hAh : Hid (_) := hA
    have hgh : Hid (_) := hg
    generalize e15 : e 15 = v at *
    clear hn hacc hA hg
    refine gK ?_
    refine hn' _ _ _ eC eC eC eC eC eC eC eC eC eC eC ?_ ?_ hf (by omega)
    · simp only [go_sem, ↓reduceIte, Nat.reduceEqDiff, Nat.reduceAdd, Nat.reduceMul, Nat.reduceSub, Nat.reduceLT, Nat.reduceLeDiff, Int.reduceEq, Int.reduceLT, Int.reduceLE, Int.reduceNeg, Int.reduceAdd, Int.reduceSub, reduceCtorEq, e15]
      exact (show LV _ _ _ _ from hAh).up (by omega)
    · simp only [go_sem, ↓reduceIte, Nat.reduceEqDiff, Nat.reduceAdd, Nat.reduceMul, Nat.reduceSub, Nat.reduceLT, Nat.reduceLeDiff, Int.reduceEq, Int.reduceLT, Int.reduceLE, Int.reduceNeg, Int.reduceAdd, Int.reduceSub, reduceCtorEq, e15]
      exact hgh
end
end Go.Proofs.Ytpdamhhaepcffaa.AE
/-
  regexec: the law Repeats: its loops over copies.
-/
set_option linter.unusedVariables false
set_option linter.unusedSimpArgs false
set_option maxHeartbeats 8000000
set_option maxRecDepth 100000
namespace Go.Proofs.Ytpdamhhaepcffaa.AE
open Go
noncomputable def stpL (r : Rx) (s : ByteArray) (l : List Int) : List Int := l.foldl (fun acc z => addL acc (endsL r s z)) []
theorem stpL_take {r : Rx} {s : ByteArray} {l : List Int} {j : Nat} {z : Int} (h : l[j]? = some z) : stpL r s (l.take (j + 1)) = addL (stpL r s (l.take j)) (endsL r s z) := by
  unfold stpL
  rw [List.take_add_one, h, List.foldl_append]
  rfl
theorem mem_fold {r : Rx} {s : ByteArray} {k : Int} : ∀ {l acc : List Int}, k ∈ l.foldl (fun acc z => addL acc (endsL r s z)) acc ↔ k ∈ acc ∨ ∃ z ∈ l, k ∈ endsL r s z
  | [], acc => by simp
  | x :: l, acc => by
    rw [List.foldl_cons, mem_fold, mem_addL]
    simp only [List.mem_cons, exists_eq_or_imp, or_assoc]
theorem mem_stpL {r : Rx} {s : ByteArray} {l : List Int} {k : Int} : k ∈ stpL r s l ↔ ∃ z ∈ l, k ∈ endsL r s z := by
  unfold stpL
  rw [mem_fold]
  simp
theorem nodup_fold {r : Rx} {s : ByteArray} : ∀ {l acc : List Int}, acc.Nodup → (l.foldl (fun acc z => addL acc (endsL r s z)) acc).Nodup
  | [], acc, h => h
  | x :: l, acc, h => nodup_fold (l := l) (nodup_addL h)
theorem nodup_stpL (r : Rx) (s : ByteArray) (l : List Int) : (stpL r s l).Nodup := nodup_fold List.nodup_nil
theorem ends_bd {r : Rx} {s : ByteArray} {i k : Int} (h : k ∈ endsL r s i) : 0 ≤ k ∧ k < (s.size + 1 : Nat) := by
  obtain ⟨_, _, _, j, rfl, h4, _⟩ := mem_ends.1 h
  omega
theorem stpL_bd {r : Rx} {s : ByteArray} {l : List Int} {k : Int} (h : k ∈ stpL r s l) : 0 ≤ k ∧ k < (s.size + 1 : Nat) := by
  obtain ⟨z, _, h⟩ := mem_stpL.1 h
  exact ends_bd h
theorem stpL_len (r : Rx) (s : ByteArray) (l : List Int) : (stpL r s l).length ≤ s.size + 1 := bnd_len (nodup_stpL r s l) fun x hx => stpL_bd hx
theorem ends_nodup (r : Rx) (s : ByteArray) (i : Int) : (endsL r s i).Nodup := by
  unfold endsL
  split
  · exact (onL_asc _ _).imp fun h => by omega
  · exact List.nodup_nil
section
variable {r : Rx} {s : ByteArray} {v10 v12 : D} {l : List Int} {y5 y7 y9 y11 y12 y13 : D}
theorem in8c (hr : Rt r s) (hs : s.size ≤ 40) (hl : l.length ≤ 100) (e : Env) (h : Hp) (k : Nat) (Q : Ex → St → Prop) (i1 : e 1 = .str s) (i3 : e 3 = .ptr 0 0 0) (i5 : e 5 = y5) (i7 : e 7 = y7) (i9 : e 9 = y9) (i11 : e 11 = y11) (i12 : e 12 = y12) (i13 : e 13 = y13) (i10 : e 10 = v10) (i15 : e 15 = .nls) (i16 : e 16 = .int .i64 (0 : Nat)) (b0 : h 0 = .var r.cells true)
    (h10 : LV h k v10 l) (hk : 1 ≤ k)
    (hn : ∀ (e' : Env) (h' : Hp) (k' : Nat), e' 1 = .str s → e' 3 = .ptr 0 0 0 → e' 5 = y5 → e' 7 = y7 → e' 9 = y9 → e' 11 = y11 → e' 12 = y12 → e' 13 = y13 → e' 10 = v10 → LV h' k' (e' 15) (stpL r s l) → Gr k .nls (e' 15) → Frm h k .nls h' → k ≤ k' → Q .nrm ⟨e', h', k'⟩) : Rn xp md (.loop L8_2) ⟨e, h, k⟩ (Bk 4 Q) := by
  obtain ⟨xl, xi, xt, xd, xf, xc, xz⟩ := cellsF r
  refine rn_loop l.length (fun j st => st.e 1 = .str s ∧ st.e 3 = .ptr 0 0 0 ∧ st.e 5 = y5 ∧ st.e 7 = y7 ∧ st.e 9 = y9 ∧ st.e 11 = y11 ∧ st.e 12 = y12 ∧ st.e 13 = y13 ∧ st.e 10 = v10 ∧ st.e 16 = .int .i64 j ∧ LV st.h st.k (st.e 15) (stpL r s (l.take j)) ∧ Gr k .nls (st.e 15) ∧ Frm h k .nls st.h ∧ k ≤ st.k) (j := 0) ⟨i1, i3, i5, i7, i9, i11, i12, i13, i10, i16, by dsimp only; rw [i15]; exact .inl ⟨rfl, rfl⟩, .inl i15, fun o _ _ => rfl, Nat.le_refl _⟩ (Nat.zero_le _) ?_
  generalize hk0 : k = k0 at *
  generalize hh0 : h = h0 at *
  clear i1 i3 i5 i7 i9 i11 i12 i13 i10 i15 i16 hk0 hh0 e h k
  rintro j ⟨e, h, k⟩ hj ⟨i1, i3, i5, i7, i9, i11, i12, i13, i10, i16, hA, hg, hf, ik⟩
  dsimp only at i1 i3 i5 i7 i9 i11 i12 i13 i10 i16 hA hg hf ik
  have dj : Dj v10 .nls := fun o _ h => by cases h
  have g10 := h10.frm dj hf ik
  have hae := g10.elems
  have hbl := bi_len l
  have c0 : h 0 = .var r.cells true := by rw [hf 0 (by omega) (fun h => by cases h)]; exact b0
  rcases nextC hj with ⟨hlt, c1⟩ | ⟨rfl, c1⟩
  · obtain ⟨z, hz⟩ := at_lt hlt
    obtain ⟨p, hp1, hp2⟩ := g10.at_ hz
    have w1 := inc64 j (by omega)
    have hta := stpL_take (r := r) (s := s) hz
    have s12 := f12 r s hr z
    have hel := endsL_len r s z
    have hacc : ∀ i, (addL (stpL r s (l.take j)) ((endsL r s z).take i)).length ≤ 200 := fun i => by
      have := bnd_len (n := s.size + 1) (nodup_addL (xs := (endsL r s z).take i) (nodup_stpL r s (l.take j))) (fun x hx => by
        rcases mem_addL.1 hx with h1 | h1
        · exact stpL_bd h1
        · exact ends_bd (List.mem_of_mem_take h1))
      omega
    have bz : ∀ l : List Int, bi l = [] → l = [] := fun l h => by cases l with | nil => rfl | cons a q => simp [bi] at h
    generalize stpL r s (l.take (j + 1)) = A' at *
    generalize stpL r s (l.take j) = A at *
    have ed := rdX_cases 3 1 (bi (endsL r s z))
    generalize endsL r s z = es at *
    subst hta
    generalize e15 : e 15 = w at *
    have key := fun v17 e h k Q => in8b (y1 := .str s) (y3 := .ptr 0 0 0) (y5 := y5) (y7 := y7) (y9 := y9) (y11 := y11) (y13 := y13) (y10 := v10) (y12 := y12) (y16 := .int .i64 j) (v17 := v17) (v15 := w) (l := es) (acc := A) (by omega) hacc e h k Q
    have kh : Hid (_) := key
    have hAh : Hid (LV h k w A) := hA
    have hgh : Hid (Gr k0 .nls w) := hg
    have hfh : Hid (Frm h0 k0 .nls h) := hf
    clear key hn hA hg hf h10 hacc g10
    have fin : ∀ (e' : Env) (h1 h' : Hp) (k1 k' : Nat), k + 40 ≤ k1 → (∀ o, o < k → h1 o = h o) → Gr k1 w (e' 15) → Frm h1 k1 w h' → k1 ≤ k' → Gr k0 .nls (e' 15) ∧ Frm h0 k0 .nls h' ∧ k0 ≤ k' := by
      intro e' h1 h' k1 k' h2 h3 h4 h5 h6
      refine ⟨?_, fun o h7 h8 => ?_, by omega⟩
      · rcases h4 with h4 | ⟨o, h4, h7⟩
        · rw [h4]; exact hgh
        · exact .inr ⟨o, h4, by omega⟩
      · rw [h5 o (by omega) (fun h9 => by
          rcases (show Gr _ _ _ from hgh) with h10 | ⟨o', h10, h11⟩
          · rw [h10] at h9; cases h9
          · rw [h10] at h9; cases h9; omega), h3 o (by omega)]
        exact (show Frm _ _ _ _ from hfh) o h7 h8
    have finh : Hid (_) := fin
    clear fin
    rcases ed with ⟨h1, h2⟩ | ⟨h1, h2⟩
    · rw [h2] at s12
      have h1h : Hid (_) := bz _ h1
      clear h1 h2 bz
      refine gK ?_
      refine kh .nls _ _ _ _ eC eC eC eC eC eC eC eC eC eC eA eC eB (.inl ⟨rfl, h1h⟩) ((show LV _ _ _ _ from hAh).up (by omega)) (fun o h _ => by cases h) ?_
      clear i1 i3 i5 i7 i9 i11 i12 i13 i10 i16
      intro e' h' k' i1 i3 i5 i7 i9 i11 i13 i10 i12 i16 i17 hL hg hf ik
      obtain ⟨f1, f2, f3⟩ := (show ∀ (e' : Env) (h1 h' : Hp) (k1 k' : Nat), _ from finh) e' h h' _ k' (by omega) (fun o _ => rfl) hg hf ik
      have Lh : Hid (_) := hL
      have G1 : Hid (_) := f1
      generalize e15' : e' 15 = w' at *
      clear hL hg hf finh kh f1
      refine gK ?_
      refine ⟨hlt, ?_, ?_, ?_, ?_, ?_, ?_, ?_, ?_, ?_, ?_, ?_, ?_, f2, ?_⟩
      all_goals first | exact eC | exact eO | skip
      · simp only [go_sem, ↓reduceIte, Nat.reduceEqDiff, Nat.reduceAdd, Nat.reduceMul, Nat.reduceSub, Nat.reduceLT, Nat.reduceLeDiff, Int.reduceEq, Int.reduceLT, Int.reduceLE, Int.reduceNeg, Int.reduceAdd, Int.reduceSub, reduceCtorEq, e15']
        exact (show LV _ _ _ _ from Lh).up (by omega)
      · simp only [go_sem, ↓reduceIte, Nat.reduceEqDiff, Nat.reduceAdd, Nat.reduceMul, Nat.reduceSub, Nat.reduceLT, Nat.reduceLeDiff, Int.reduceEq, Int.reduceLT, Int.reduceLE, Int.reduceNeg, Int.reduceAdd, Int.reduceSub, reduceCtorEq, e15']
        exact G1
    · rw [h2] at s12
      clear h1 h2 bz
      refine gK ?_
      refine kh _ _ _ _ _ eC eC eC eC eC eC eC eC eC eC eB eC eB (.inr ⟨_, rfl, by omega, eA⟩) (((show LV _ _ _ _ from hAh).put (by omega)).up (by omega)) (fun o h h2 => ?_) ?_
      · cases h
        rcases (show LV _ _ _ _ from hAh) with ⟨h3, _⟩ | ⟨o2, h3, h4, _⟩
        · rw [h3] at h2; cases h2
        · rw [h3] at h2; cases h2; omega
      clear i1 i3 i5 i7 i9 i11 i12 i13 i10 i16
      intro e' h' k' i1 i3 i5 i7 i9 i11 i13 i10 i12 i16 i17 hL hg hf ik
      obtain ⟨f1, f2, f3⟩ := (show ∀ (e' : Env) (h1 h' : Hp) (k1 k' : Nat), _ from finh) e' _ h' _ k' (by omega) (fun o ho => hput_ne _ _ (by omega)) hg hf ik
      have Lh : Hid (_) := hL
      have G1 : Hid (_) := f1
      generalize e15' : e' 15 = w' at *
      clear hL hg hf finh kh f1
      refine gK ?_
      refine ⟨hlt, ?_, ?_, ?_, ?_, ?_, ?_, ?_, ?_, ?_, ?_, ?_, ?_, f2, ?_⟩
      all_goals first | exact eC | exact eO | skip
      · simp only [go_sem, ↓reduceIte, Nat.reduceEqDiff, Nat.reduceAdd, Nat.reduceMul, Nat.reduceSub, Nat.reduceLT, Nat.reduceLeDiff, Int.reduceEq, Int.reduceLT, Int.reduceLE, Int.reduceNeg, Int.reduceAdd, Int.reduceSub, reduceCtorEq, e15']
        exact (show LV _ _ _ _ from Lh).up (by omega)
      · simp only [go_sem, ↓reduceIte, Nat.reduceEqDiff, Nat.reduceAdd, Nat.reduceMul, Nat.reduceSub, Nat.reduceLT, Nat.reduceLeDiff, Int.reduceEq, Int.reduceLT, Int.reduceLE, Int.reduceNeg, Int.reduceAdd, Int.reduceSub, reduceCtorEq, e15']
        exact G1
  · rw [List.take_length] at hA
    have hn' := fun (e' : Env) (h' : Hp) (k' : Nat) => hn e' h' k'
    have hAh : Hid (_) := hA
    have hgh : Hid (_) := hg
    generalize e15 : e 15 = v at *
    clear hn hA hg
    refine gK ?_
    refine hn' _ _ _ eC eC eC eC eC eC eC eC eC ?_ ?_ hf (by omega)
    · simp only [go_sem, ↓reduceIte, Nat.reduceEqDiff, Nat.reduceAdd, Nat.reduceMul, Nat.reduceSub, Nat.reduceLT, Nat.reduceLeDiff, Int.reduceEq, Int.reduceLT, Int.reduceLE, Int.reduceNeg, Int.reduceAdd, Int.reduceSub, reduceCtorEq, e15]
      exact (show LV _ _ _ _ from hAh).up (by omega)
    · simp only [go_sem, ↓reduceIte, Nat.reduceEqDiff, Nat.reduceAdd, Nat.reduceMul, Nat.reduceSub, Nat.reduceLT, Nat.reduceLeDiff, Int.reduceEq, Int.reduceLT, Int.reduceLE, Int.reduceNeg, Int.reduceAdd, Int.reduceSub, reduceCtorEq, e15]
      exact hgh
end
end Go.Proofs.Ytpdamhhaepcffaa.AE
/-
  regexec: the law Repeats.
-/
set_option linter.unusedVariables false
set_option linter.unusedSimpArgs false
set_option maxHeartbeats 8000000
set_option maxRecDepth 100000
namespace Go.Proofs.Ytpdamhhaepcffaa.AE
open Go
noncomputable def itN (r : Rx) (s : ByteArray) (l0 : List Int) : Nat → List Int
  | 0 => l0
  | n + 1 => stpL r s (itN r s l0 n)
noncomputable def alN (r : Rx) (s : ByteArray) (l0 : List Int) (a : Nat) : Nat → List Int
  | 0 => []
  | n + 1 => if a ≤ n then addL (alN r s l0 a n) (itN r s l0 n) else alN r s l0 a n
theorem mem_alN {r : Rx} {s : ByteArray} {l0 : List Int} {a : Nat} {k : Int} : ∀ {m : Nat}, k ∈ alN r s l0 a m ↔ ∃ n, n < m ∧ a ≤ n ∧ k ∈ itN r s l0 n
  | 0 => by simp [alN]
  | m + 1 => by
    unfold alN
    split
    · rename_i h
      rw [mem_addL, mem_alN]
      constructor
      · rintro (⟨n, h1, h2, h3⟩ | h1)
        · exact ⟨n, by omega, h2, h3⟩
        · exact ⟨m, by omega, h, h1⟩
      · rintro ⟨n, h1, h2, h3⟩
        by_cases he : n = m
        · subst he; exact .inr h3
        · exact .inl ⟨n, by omega, h2, h3⟩
    · rename_i h
      rw [mem_alN]
      constructor
      · rintro ⟨n, h1, h2, h3⟩; exact ⟨n, by omega, h2, h3⟩
      · rintro ⟨n, h1, h2, h3⟩; exact ⟨n, by omega, h2, h3⟩
theorem nodup_alN (r : Rx) (s : ByteArray) (l0 : List Int) (a : Nat) : ∀ m, (alN r s l0 a m).Nodup
  | 0 => List.nodup_nil
  | m + 1 => by
    unfold alN
    split
    · exact nodup_addL (nodup_alN r s l0 a m)
    · exact nodup_alN r s l0 a m
theorem itN_bd {r : Rx} {s : ByteArray} {l0 : List Int} (h0 : ∀ k ∈ l0, 0 ≤ k ∧ k < (s.size + 1 : Nat)) {k : Int} : ∀ {n : Nat}, k ∈ itN r s l0 n → 0 ≤ k ∧ k < (s.size + 1 : Nat)
  | 0, h => h0 k h
  | n + 1, h => stpL_bd h
theorem itN_len {r : Rx} {s : ByteArray} {l0 : List Int} (hl : l0.length ≤ 1) : ∀ n, (itN r s l0 n).length ≤ s.size + 1
  | 0 => by show l0.length ≤ _; omega
  | n + 1 => stpL_len r s _
theorem pw_drop {n : Nat} {R : Rl} (hR : Wf n R) : ∀ {m i j : Nat}, i < n → pw R (m + 1) i j → j < i + (m + 1) → pw R m i j
  | 0, i, j, hi, h, hj => by
    obtain ⟨q, h1, h2⟩ := h
    have h1 : i = q := h1
    subst h1
    have := (hR i j hi h2).1
    obtain rfl : i = j := by omega
    rfl
  | m + 1, i, j, hi, h, hj => by
    obtain ⟨q, h1, h2⟩ := h
    have hq := pw_wf hR (m + 1) i q hi h1
    have hj2 := hR q j hq.2 h2
    by_cases he : q = j
    · subst he; exact h1
    · exact ⟨q, pw_drop hR hi h1 (by omega), h2⟩
theorem pw_cap {n : Nat} {R : Rl} (hR : Wf n R) {i j : Nat} (hi : i < n) {c : Nat} (hc : n ≤ c) : ∀ {m : Nat}, pw R m i j → ∃ m', m' ≤ c ∧ (m' = m ∨ c ≤ m') ∧ m' ≤ m ∧ pw R m' i j
  | 0, h => ⟨0, by omega, .inl rfl, Nat.le_refl _, h⟩
  | m + 1, h => by
    by_cases hm : m + 1 ≤ c
    · exact ⟨m + 1, hm, .inl rfl, Nat.le_refl _, h⟩
    · have hw := pw_wf hR (m + 1) i j hi h
      obtain ⟨m', h1, h2, h3, h4⟩ := pw_cap hR hi hc (pw_drop hR hi h (by omega))
      exact ⟨m', h1, .inr (by omega), by omega, h4⟩
section
variable {r : Rx} {s : ByteArray} {l0 : List Int} {a last : Nat} {y5 y9 : D} {A : List D} {X : List D}
theorem in8d (hr : Rt r s) (hs : s.size ≤ 40) (hlast : last ≤ 100) (P1 : ∀ n, (itN r s l0 n).length ≤ 100) (P2 : ∀ n j, (addL (alN r s l0 a n) ((itN r s l0 n).take j)).length ≤ 200) (e : Env) (h : Hp) (k : Nat) (Q : Ex → St → Prop) (i1 : e 1 = .str s) (i3 : e 3 = .ptr 0 0 0) (i5 : e 5 = .ptr 8 0 0) (i7 : e 7 = .int .i64 a) (i9 : e 9 = .ptr 128 0 0) (i11 : e 11 = .int .i64 last) (i13 : e 13 = .int .i64 (0 : Nat))
    (b0 : h 0 = .var r.cells true) (b8 : h 8 = .var A true) (b128 : h 128 = .var X true) (h10 : LV h k (e 10) l0) (i12 : e 12 = .nls) (ik : 144 ≤ k)
    (hn : ∀ (e' : Env) (h' : Hp) (k' : Nat), e' 1 = .str s → e' 5 = .ptr 8 0 0 → e' 9 = .ptr 128 0 0 → h' 8 = .var A true → h' 128 = .var X true → LV h' k' (e' 12) (alN r s l0 a (last + 1)) → 144 ≤ k' → Q .nrm ⟨e', h', k'⟩) : Rn xp md (.loop L8_3) ⟨e, h, k⟩ (Bk 0 Q) := by
  refine rn_loop (last + 1) (fun n st => st.e 1 = .str s ∧ st.e 3 = .ptr 0 0 0 ∧ st.e 5 = .ptr 8 0 0 ∧ st.e 7 = .int .i64 a ∧ st.e 9 = .ptr 128 0 0 ∧ st.e 11 = .int .i64 last ∧ st.e 13 = .int .i64 n ∧ st.h 0 = .var r.cells true ∧ st.h 8 = .var A true ∧ st.h 128 = .var X true ∧ 144 ≤ st.k ∧ LV st.h st.k (st.e 10) (itN r s l0 n) ∧ LV st.h st.k (st.e 12) (alN r s l0 a n) ∧ Dj (st.e 10) (st.e 12)) (j := 0) ⟨i1, i3, i5, i7, i9, i11, i13, b0, b8, b128, ik, h10, .inl ⟨i12, rfl⟩, fun o _ h => by dsimp only at h; rw [i12] at h; cases h⟩ (Nat.zero_le _) ?_
  clear i1 i3 i5 i7 i9 i11 i13 b0 b8 b128 h10 i12 ik e h k
  rintro n ⟨e, h, k⟩ hj ⟨i1, i3, i5, i7, i9, i11, i13, b0, b8, b128, ik, h10, h12, dj⟩
  dsimp only at i1 i3 i5 i7 i9 i11 i13 b0 b8 b128 ik h10 h12 dj
  rcases nextE hj with ⟨hle, c1⟩ | ⟨rfl, c1⟩
  · have w1 := inc64 n (by omega)
    have hlt : n < last + 1 := by omega
    have p1 := P1 n
    have p2 := P2 n
    have e1 : itN r s l0 (n + 1) = stpL r s (itN r s l0 n) := rfl
    have e2 : alN r s l0 a (n + 1) = if a ≤ n then addL (alN r s l0 a n) (itN r s l0 n) else alN r s l0 a n := rfl
    clear P1 P2 hn
    generalize itN r s l0 (n + 1) = L' at *
    generalize alN r s l0 a (n + 1) = B' at *
    generalize itN r s l0 n = L at *
    generalize alN r s l0 a n = B at *
    subst e1
    generalize e10 : e 10 = v10 at *
    generalize e12 : e 12 = v12 at *
    have H10 : Hid (LV h k v10 L) := h10
    have H12 : Hid (LV h k v12 B) := h12
    have k8 := fun (v10 : D) (y12 : D) e h k Q => in8c (y5 := .ptr 8 0 0) (y7 := .int .i64 a) (y9 := .ptr 128 0 0) (y11 := .int .i64 last) (y13 := .int .i64 n) (y12 := y12) (v10 := v10) hr hs p1 e h k Q
    have K8 : Hid (_) := k8
    clear k8 h10 h12
    by_cases hc : a ≤ n
    · have c2 : decide ((a : Int) ≤ (n : Int)) = true := decide_eq_true (by omega)
      rw [if_pos hc] at e2
      subst e2
      have k9 := fun e h k Q => in8a (y1 := .str s) (y3 := .ptr 0 0 0) (y5 := .ptr 8 0 0) (y7 := .int .i64 a) (y9 := .ptr 128 0 0) (y11 := .int .i64 last) (y13 := .int .i64 n) (v10 := v10) (v12 := v12) p1 p2 e h k Q
      have K9 : Hid (_) := k9
      clear k9
      have n0 := (show LV _ _ _ _ from H12).nvar b0
      have n8 := (show LV _ _ _ _ from H12).nvar b8
      have n128 := (show LV _ _ _ _ from H12).nvar b128
      refine gK ?_
      refine K9 _ _ _ _ eC eC eC eC eC eC eC eC eC eB ((show LV _ _ _ _ from H10).up (by omega)) ((show LV _ _ _ _ from H12).up (by omega)) dj ?_
      clear K9 i1 i3 i5 i7 i9 i11 i13
      intro e1 h1 k1 i1 i3 i5 i7 i9 i11 i13 i10 hL hg hf ik1
      have g10 := ((show LV _ _ _ _ from H10).up (by omega)).frm dj hf ik1
      have a0 := (hf 0 (by omega) n0).trans b0
      have a8 := (hf 8 (by omega) n8).trans b8
      have a128 := (hf 128 (by omega) n128).trans b128
      have HL : Hid (_) := hL
      have HG : Hid (_) := g10
      clear hL g10 hg hf n0 n8 n128 b0 b8 b128 e10 e12 H10 H12
      generalize e12 : e1 12 = v12' at *
      clear dj
      refine gK ?_
      refine K8 v10 v12' _ _ _ _ eC eC eC eC eC eC eC eC eC eA eB (by exact a0) ((show LV _ _ _ _ from HG).up (by omega)) (by omega) ?_
      clear K8 i1 i3 i5 i7 i9 i11 i13 i10
      intro e2 h2 k2 i1 i3 i5 i7 i9 i11 i12 i13 i10 hL2 hg2 hf2 ik2
      have d12 := ((show LV _ _ _ _ from HL).up (by omega)).frm (fun o _ h => by cases h) hf2 ik2
      have c0 := (hf2 0 (by omega) (fun h => by cases h)).trans a0
      have c8 := (hf2 8 (by omega) (fun h => by cases h)).trans a8
      have c128 := (hf2 128 (by omega) (fun h => by cases h)).trans a128
      have dj2 : Dj (e2 15) v12' := fun o h3 h4 => by
        rcases hg2 with h5 | ⟨o2, h5, h6⟩
        · rw [h5] at h3; cases h3
        · rw [h5] at h3; cases h3
          rcases (show LV _ _ _ _ from HL) with ⟨h7, _⟩ | ⟨o3, h7, h8, _⟩
          · rw [h7] at h4; cases h4
          · rw [h7] at h4; cases h4; omega
      have HL2 : Hid (_) := hL2
      have D12 : Hid (_) := d12
      have DJ : Hid (_) := dj2
      generalize e15 : e2 15 = v15 at *
      clear hL2 d12 dj2 hg2 hf2 a0 a8 a128 HL HG e12
      refine gK ?_
      refine ⟨hlt, ?_, ?_, ?_, ?_, ?_, ?_, ?_, c0, c8, c128, ?_, ?_, ?_, ?_⟩
      all_goals first | exact eC | exact eO | skip
      · simp only [go_sem, ↓reduceIte, Nat.reduceEqDiff, Nat.reduceAdd, Nat.reduceMul, Nat.reduceSub, Nat.reduceLT, Nat.reduceLeDiff, Int.reduceEq, Int.reduceLT, Int.reduceLE, Int.reduceNeg, Int.reduceAdd, Int.reduceSub, reduceCtorEq, e15]
        exact (show LV _ _ _ _ from HL2).up (by omega)
      · simp only [go_sem, ↓reduceIte, Nat.reduceEqDiff, Nat.reduceAdd, Nat.reduceMul, Nat.reduceSub, Nat.reduceLT, Nat.reduceLeDiff, Int.reduceEq, Int.reduceLT, Int.reduceLE, Int.reduceNeg, Int.reduceAdd, Int.reduceSub, reduceCtorEq, i12]
        exact (show LV _ _ _ _ from D12).up (by omega)
      · simp only [go_sem, ↓reduceIte, Nat.reduceEqDiff, Nat.reduceAdd, Nat.reduceMul, Nat.reduceSub, Nat.reduceLT, Nat.reduceLeDiff, Int.reduceEq, Int.reduceLT, Int.reduceLE, Int.reduceNeg, Int.reduceAdd, Int.reduceSub, reduceCtorEq, i12, e15]
        exact DJ
    · have c2 : decide ((a : Int) ≤ (n : Int)) = false := decide_eq_false (by omega)
      rw [if_neg hc] at e2
      subst e2
      have dv : ∀ o, v12 = .osl o → o < k := fun o ho => by
        rcases (show LV _ _ _ _ from H12) with ⟨h7, _⟩ | ⟨o3, h7, h8, _⟩
        · rw [h7] at ho; cases ho
        · rw [h7] at ho; cases ho; omega
      clear dj
      refine gK ?_
      refine K8 v10 v12 _ _ _ _ eC eC eC eC eC eC eC eC eC eA eB (by exact b0) ((show LV _ _ _ _ from H10).up (by omega)) (by omega) ?_
      clear K8 i1 i3 i5 i7 i9 i11 i13
      intro e2 h2 k2 i1 i3 i5 i7 i9 i11 i12 i13 i10 hL2 hg2 hf2 ik2
      have d12 := ((show LV _ _ _ _ from H12).up (by omega)).frm (fun o _ h => by cases h) hf2 ik2
      have c0 := (hf2 0 (by omega) (fun h => by cases h)).trans b0
      have c8 := (hf2 8 (by omega) (fun h => by cases h)).trans b8
      have c128 := (hf2 128 (by omega) (fun h => by cases h)).trans b128
      have dj2 : Dj (e2 15) v12 := fun o h3 h4 => by
        rcases hg2 with h5 | ⟨o2, h5, h6⟩
        · rw [h5] at h3; cases h3
        · rw [h5] at h3; cases h3
          have := dv o h4
          omega
      have HL2 : Hid (_) := hL2
      have D12 : Hid (_) := d12
      have DJ : Hid (_) := dj2
      generalize e15 : e2 15 = v15 at *
      clear hL2 d12 dj2 hg2 hf2 b0 b8 b128 H10 H12 e12 e10 dv
      refine gK ?_
      refine ⟨hlt, ?_, ?_, ?_, ?_, ?_, ?_, ?_, c0, c8, c128, ?_, ?_, ?_, ?_⟩
      all_goals first | exact eC | exact eO | skip
      · simp only [go_sem, ↓reduceIte, Nat.reduceEqDiff, Nat.reduceAdd, Nat.reduceMul, Nat.reduceSub, Nat.reduceLT, Nat.reduceLeDiff, Int.reduceEq, Int.reduceLT, Int.reduceLE, Int.reduceNeg, Int.reduceAdd, Int.reduceSub, reduceCtorEq, e15]
        exact (show LV _ _ _ _ from HL2).up (by omega)
      · simp only [go_sem, ↓reduceIte, Nat.reduceEqDiff, Nat.reduceAdd, Nat.reduceMul, Nat.reduceSub, Nat.reduceLT, Nat.reduceLeDiff, Int.reduceEq, Int.reduceLT, Int.reduceLE, Int.reduceNeg, Int.reduceAdd, Int.reduceSub, reduceCtorEq, i12]
        exact (show LV _ _ _ _ from D12).up (by omega)
      · simp only [go_sem, ↓reduceIte, Nat.reduceEqDiff, Nat.reduceAdd, Nat.reduceMul, Nat.reduceSub, Nat.reduceLT, Nat.reduceLeDiff, Int.reduceEq, Int.reduceLT, Int.reduceLE, Int.reduceNeg, Int.reduceAdd, Int.reduceSub, reduceCtorEq, i12, e15]
        exact DJ
  · have hn' := fun (e' : Env) (h' : Hp) (k' : Nat) => hn e' h' k'
    have H12 : Hid (_) := h12
    generalize e12 : e 12 = v12 at *
    clear hn h12 h10 dj P1 P2
    refine gK ?_
    refine hn' _ _ _ eC eC eC b8 b128 ?_ (by omega)
    simp only [go_sem, ↓reduceIte, Nat.reduceEqDiff, Nat.reduceAdd, Nat.reduceMul, Nat.reduceSub, Nat.reduceLT, Nat.reduceLeDiff, Int.reduceEq, Int.reduceLT, Int.reduceLE, Int.reduceNeg, Int.reduceAdd, Int.reduceSub, reduceCtorEq, e12]
    exact (show LV _ _ _ _ from H12).up (by omega)
theorem in8e {v12 v19 : D} {al es : List Int} (hl : es.length ≤ 100) (ha : al.length ≤ 200) (hall : ∀ x ∈ es, hasB al x = true) (e : Env) (h : Hp) (k : Nat) (Q : Ex → St → Prop) (i12 : e 12 = v12) (i19 : e 19 = v19) (i20 : e 20 = .int .i64 (0 : Nat)) (h12 : LV h k v12 al) (h19 : LV h k v19 es)
    (hn : ∀ (e' : Env) (h' : Hp) (k' : Nat), Q .nrm ⟨e', h', k'⟩) : Rn xp md (.loop L8_4) ⟨e, h, k⟩ (Bk 8 Q) := by
  have hae := h19.elems
  have hbl := bi_len es
  obtain ⟨wA, hA2, fA, sA⟩ := h12.frz
  refine rn_loop es.length (fun j st => st.e 12 = v12 ∧ st.e 19 = v19 ∧ st.e 20 = .int .i64 j ∧ st.h = h) (j := 0) ⟨i12, i19, i20, rfl⟩ (Nat.zero_le _) ?_
  clear i12 i19 i20 e
  rintro j ⟨e, h', k'⟩ hj ⟨i12, i19, i20, hh⟩
  dsimp only at i12 i19 i20 hh
  subst hh
  rcases nextC hj with ⟨hlt, c1⟩ | ⟨rfl, c1⟩
  · obtain ⟨x, hx⟩ := at_lt hlt
    obtain ⟨p, hp1, hp2⟩ := h19.at_ hx
    have w1 := inc64 j (by omega)
    have s25 := isI_has sA x (by omega)
    rw [hall x (List.mem_of_getElem? hx)] at s25
    clear hall hn h12 h19
    refine gK ?_
    refine ⟨hlt, ?_, ?_, ?_, ?_⟩
    all_goals first | exact eC | exact eO | skip
  · have hn' := fun (e' : Env) (h' : Hp) (k' : Nat) => hn e' h' k'
    clear hn h12 h19 hall
    refine gK ?_
    exact hn' _ _ _
end
theorem rep_cells {mn mx : Int} (x : Rx) : (Rx.mk 4 true [] mn mx [x]).cells = [.int .i64 4, .nls, .int .i64 mn, .int .i64 mx, .isl [x.cells]] := by
  rw [rx_cells, rs, Rx.rows, Rx.rows]
  rfl
theorem rep_in {mn mx : Int} {x : Rx} (hx : Rx.In x) : Rx.In (.mk 4 true [] mn mx [x]) := .mk (by simp) (by simp) (by simp [hx])
theorem ok_rep {mn mx : Int} {x : Rx} (h : Rx.Ok (.mk 4 true [] mn mx [x])) : 0 ≤ mn ∧ mn ≤ 8 ∧ (mx = -1 ∨ (mn ≤ mx ∧ mx ≤ 8)) := by
  cases h with
  | mk hk hs hl hr h => exact (hr rfl).2
theorem mem_itN {r : Rx} {s : ByteArray} (hr : rightE r = 0) {i : Nat} (hi : i < s.size + 1) {k : Int} : ∀ {n : Nat}, k ∈ itN r s [(i : Int)] n ↔ ∃ j : Nat, k = j ∧ j < s.size + 1 ∧ pw (r.R s) n i j
  | 0 => by
    show k ∈ [(i : Int)] ↔ _
    simp only [List.mem_singleton]
    constructor
    · rintro rfl; exact ⟨i, rfl, hi, rfl⟩
    · rintro ⟨j, rfl, _, h⟩
      have h : i = j := h
      rw [h]
  | n + 1 => by
    show k ∈ stpL r s (itN r s [(i : Int)] n) ↔ _
    rw [mem_stpL]
    constructor
    · rintro ⟨z, hz, hk⟩
      obtain ⟨q, rfl, h1, h2⟩ := (mem_itN hr hi).1 hz
      obtain ⟨_, _, _, j, rfl, h3, h4⟩ := mem_ends.1 hk
      rw [Int.toNat_natCast] at h4
      exact ⟨j, rfl, h3, q, h2, h4⟩
    · rintro ⟨j, rfl, h1, q, h2, h3⟩
      have hq := pw_wf (Rx.wf s r) n i q hi h2
      exact ⟨(q : Int), (mem_itN hr hi).2 ⟨q, rfl, hq.2, h2⟩, mem_ends.2 ⟨by omega, by omega, hr, j, rfl, h1, by rw [Int.toNat_natCast]; exact h3⟩⟩
theorem itN_nil (r : Rx) (s : ByteArray) : ∀ n, itN r s [] n = []
  | 0 => rfl
  | n + 1 => by
    show stpL r s (itN r s [] n) = []
    rw [itN_nil r s n]
    rfl
/-- The plain law. -/
theorem rep_law {r : Rx} {s : ByteArray} {a : Nat} {mx at_ : Int} {last : Nat} {l0 : List Int} (hr : rightE r = 0) (hx : rightE (.mk 4 true [] a mx [r]) = 0) (ha : a ≤ 8) (hm : mx = -1 ∨ ((a : Int) ≤ mx ∧ mx ≤ 8)) (hlast : (last : Int) = if mx < 0 then (a : Int) + s.size + 1 else mx)
    (hl0 : l0 = if 0 ≤ at_ ∧ at_ ≤ s.size then [at_] else []) (k : Int) : k ∈ endsL (.mk 4 true [] a mx [r]) s at_ ↔ k ∈ alN r s l0 a (last + 1) := by
  rw [mem_ends, mem_alN]
  by_cases hv : 0 ≤ at_ ∧ at_ ≤ s.size
  · rw [if_pos hv] at hl0
    obtain ⟨i, rfl⟩ : ∃ i : Nat, at_ = i := ⟨at_.toNat, by omega⟩
    have hi : i < s.size + 1 := by omega
    rw [hl0, Int.toNat_natCast, rx_R4, show fstR s [r] = r.R s by rw [fstR]]
    constructor
    · rintro ⟨_, _, _, j, rfl, h1, m, h2, h3, h4⟩
      rcases Int.lt_or_le mx 0 with h5 | h5
      · rw [if_pos h5] at hlast
        obtain ⟨m', g1, g2, g3, g4⟩ := pw_cap (Rx.wf s r) hi (c := last) (by omega) h4
        exact ⟨m', by omega, by omega, (mem_itN hr hi).2 ⟨j, rfl, h1, g4⟩⟩
      · rw [if_neg (by omega)] at hlast
        exact ⟨m, by omega, by omega, (mem_itN hr hi).2 ⟨j, rfl, h1, h4⟩⟩
    · rintro ⟨n, h1, h2, h3⟩
      obtain ⟨j, rfl, h4, h5⟩ := (mem_itN hr hi).1 h3
      refine ⟨by omega, by omega, hx, j, rfl, h4, n, by omega, ?_, h5⟩
      rcases Int.lt_or_le mx 0 with h6 | h6
      · exact .inl h6
      · rw [if_neg (by omega)] at hlast
        exact .inr (by omega)
  · rw [if_neg hv] at hl0
    constructor
    · rintro ⟨h1, h2, _⟩; exact absurd ⟨h1, h2⟩ hv
    · rintro ⟨n, _, _, h3⟩
      rw [hl0, itN_nil] at h3
      cases h3
end Go.Proofs.Ytpdamhhaepcffaa.AE
/-
  regexec: the law Repeats, as a function.
-/
set_option linter.unusedVariables false
set_option linter.unusedSimpArgs false
set_option maxHeartbeats 8000000
set_option maxRecDepth 100000
namespace Go.Proofs.Ytpdamhhaepcffaa.AE
open Go
theorem law8 (r : Rx) (s : ByteArray) (at_ mn mx : Int) (hr : Rx.In r) (hn : r.nodes ≤ 1048576) : callP (Lv xp md) 8 [.agg r.cells, .str s, .agg [.int .i64 at_, .int .i64 mn, .int .i64 mx]] = some [.bool true] := by
  have s10 := f10
  have s24 := f24 _ (rep_in (mn := mn) (mx := mx) hr)
  rw [rep_cells] at s24
  obtain ⟨xl, xi, xt, xd, xf, xc, xz⟩ := cellsF r
  have xF := cells_imF r
  rcases Nat.lt_or_ge 40 s.size with h | h
  · have c1 : decide ((40 : Int) < (s.size : Int)) = true := decide_eq_true (by omega)
    refine fn_v (F := F8) rfl ?_
    exact gD
  have c1 : decide ((40 : Int) < (s.size : Int)) = false := decide_eq_false (by omega)
  cases r1 : decide (rightE (.mk 4 true [] mn mx [r]) = 0) with
  | false =>
    generalize rightE (.mk 4 true [] mn mx [r]) = v1 at *
    refine fn_v (F := F8) rfl ?_
    exact gD
  | true =>
    have r1 := of_decide_eq_true r1
    have rr := right_one hn r1
    obtain ⟨hm0, hm8, hmx⟩ := ok_rep (ok_of _ (rep_in hr) r1)
    obtain ⟨a, rfl⟩ : ∃ a : Nat, mn = a := ⟨mn.toNat, by omega⟩
    have ha : a ≤ 8 := by omega
    obtain ⟨last, hlast⟩ : ∃ last : Nat, (last : Int) = if mx < 0 then (a : Int) + s.size + 1 else mx := by
      split
      · exact ⟨a + s.size + 1, by omega⟩
      · exact ⟨mx.toNat, by omega⟩
    have q3 := f12 _ s (rt_of (rep_in (mn := a) (mx := mx) hr) (by omega)) at_
    rw [rep_cells] at q3
    rw [r1] at s24
    obtain ⟨l0, hl0⟩ : ∃ l0, l0 = if 0 ≤ at_ ∧ at_ ≤ s.size then [at_] else [] := ⟨_, rfl⟩
    have plain := rep_law (s := s) (at_ := at_) (last := last) (l0 := l0) rr r1 ha (by omega) hlast hl0
    have hl1 : l0.length ≤ 1 := by rw [hl0]; split <;> simp
    have hl2 : ∀ k ∈ l0, 0 ≤ k ∧ k < (s.size + 1 : Nat) := by
      rw [hl0]
      split
      · intro k hk
        simp only [List.mem_singleton] at hk
        omega
      · intro k hk; cases hk
    have P1 : ∀ n, (itN r s l0 n).length ≤ 100 := fun n => by have := itN_len (r := r) (s := s) hl1 n; omega
    have P2 : ∀ n j, (addL (alN r s l0 a n) ((itN r s l0 n).take j)).length ≤ 200 := fun n j => by
      have := bnd_len (n := s.size + 1) (nodup_addL (xs := (itN r s l0 n).take j) (nodup_alN r s l0 a n)) (fun x hx => by
        rcases mem_addL.1 hx with h1 | h1
        · obtain ⟨m, _, _, h2⟩ := mem_alN.1 h1
          exact itN_bd hl2 h2
        · exact itN_bd hl2 (List.mem_of_mem_take h1))
      omega
    have hel := endsL_len (.mk 4 true [] a mx [r]) s at_
    have hen := ends_nodup (.mk 4 true [] a mx [r]) s at_
    have han := nodup_alN r s l0 a (last + 1)
    have hle1 := sub_len hen fun x hx => (plain x).1 hx
    have hle2 := sub_len han fun x hx => (plain x).2 hx
    have hall : ∀ x ∈ endsL (.mk 4 true [] a mx [r]) s at_, hasB (alN r s l0 a (last + 1)) x = true := fun x hx => hasB_iff.2 ((plain x).1 hx)
    have key := fun e g k Q => in8d (A := [.int .i64 at_, .int .i64 a, .int .i64 mx]) (X := [.int .i64 4, .nls, .int .i64 a, .int .i64 mx, .isl [r.cells]]) (rt_of hr (by omega)) h (show last ≤ 100 by split at hlast <;> omega) P1 P2 e g k Q
    have kh : Hid (_) := key
    have ed := rdX_cases 3 1 (bi (endsL (.mk 4 true [] a mx [r]) s at_))
    have hlen : decide (((endsL (.mk 4 true [] a mx [r]) s at_).length : Int) = ((alN r s l0 a (last + 1)).length : Int)) = true := decide_eq_true (by omega)
    have key2 := fun v12 v19 e g k Q => in8e (v12 := v12) (v19 := v19) (by omega) (show (alN r s l0 a (last + 1)).length ≤ 200 by omega) hall e g k Q
    have kh2 : Hid (_) := key2
    clear key key2 plain P1 P2 hl1 hl2 hel hen han hle1 hle2 hall rr r1 hn hr
    generalize alN r s l0 a (last + 1) = al at *
    generalize endsL (.mk 4 true [] a mx [r]) s at_ = es at *
    have bz : ∀ l : List Int, bi l = [] → l = [] := fun l h => by cases l with | nil => rfl | cons a q => simp [bi] at h
    have cv : (decide (at_ < 0) = true ∧ l0 = []) ∨ (decide (at_ < 0) = false ∧ decide ((s.size : Int) < at_) = true ∧ l0 = []) ∨ (decide (at_ < 0) = false ∧ decide ((s.size : Int) < at_) = false ∧ l0 = [at_]) := by
      by_cases h1 : at_ < 0
      · exact .inl ⟨decide_eq_true h1, by rw [hl0, if_neg (by omega)]⟩
      · by_cases h2 : (s.size : Int) < at_
        · exact .inr (.inl ⟨decide_eq_false h1, decide_eq_true h2, by rw [hl0, if_neg (by omega)]⟩)
        · exact .inr (.inr ⟨decide_eq_false h1, decide_eq_false h2, by rw [hl0, if_pos (by omega)]⟩)
    have cm : (decide (mx < 0) = true ∧ IntKind.i64.wrap ((a : Int) + s.size) = ((a + s.size : Nat) : Int) ∧ IntKind.i64.wrap (((a + s.size : Nat) : Int) + 1) = (last : Int)) ∨ (decide (mx < 0) = false ∧ mx = (last : Int)) := by
      by_cases h1 : mx < 0
      · rw [if_pos h1] at hlast
        exact .inl ⟨decide_eq_true h1, by rw [wrapN (by omega) (by omega)]; omega, by rw [wrapN (by omega) (by omega)]; omega⟩
      · rw [if_neg h1] at hlast
        exact .inr ⟨decide_eq_false h1, hlast.symm⟩
    clear hl0 hlast hmx hm0 hm8
    refine fn_v (F := F8) rfl ?_
    rcases cv with ⟨v1, hl0⟩ | ⟨v1, v2, hl0⟩ | ⟨v1, v2, hl0⟩ <;> rcases cm with ⟨m1, m2, m3⟩ | ⟨m1, m2⟩
    all_goals
      have HL0 : Hid (_) := hl0
      clear hl0
      try (have M2 : Hid (mx = (last : Int)) := m2; clear m2)
      refine gK ?_
      refine kh _ _ _ _ eA eA eA eA eA ?_ eB eA eA eA ?_ eA (by omega) ?_
      · first | exact eA | (rw [← (show mx = (last : Int) from M2)]; exact eA)
      · first | exact .inl ⟨eA, HL0⟩ | (rw [show l0 = _ from HL0]; exact .inr ⟨224, eA, by omega, eB⟩)
      clear kh
      intro e' h' k' i1 i5 i9 b8 b128 hL ik
      have H12 : Hid (_) := hL
      generalize e12 : e' 12 = v12 at *
      have hae := hL.elems
      have hbl := bi_len al
      have hae2 : ∀ c ob, elems (hput h' (k' + c) ob) v12 = some (bi al) := fun c ob => (hL.put (m := k' + c) (ob := ob) (by omega)).elems
      clear hL
      rcases ed with ⟨h1, h2⟩ | ⟨h1, h2⟩
      · rw [h2] at q3
        obtain rfl := bz _ h1
        rw [List.length_nil] at hlen
        clear h1 h2 bz
        refine gK ?_
        refine kh2 v12 .nls _ _ _ _ eC eA eB ((show LV _ _ _ _ from H12).up (by omega)) (.inl ⟨rfl, rfl⟩) ?_
        intro e2 h2 k2
        clear kh2
        exact gD
      · rw [h2] at q3
        have hbs := bi_len es
        clear h1 h2 bz
        refine gK ?_
        refine kh2 v12 (.osl (k' + 32)) _ _ _ _ eC eA eB (((show LV _ _ _ _ from H12).put (by omega)).up (by omega)) (.inr ⟨_, rfl, by omega, eA⟩) ?_
        intro e2 h2 k2
        clear kh2
        exact gD
end Go.Proofs.Ytpdamhhaepcffaa.AE
