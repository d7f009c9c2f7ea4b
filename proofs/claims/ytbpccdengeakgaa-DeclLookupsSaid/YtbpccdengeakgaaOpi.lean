/-
  What an argument that is read is, as AE's data: out of the reading and its weights. No program in sight.
-/
import Derived.Test.YtbpccdengeakgaaAE20
import Derived.Deep.Slices
import Derived.SizedLaws
import Derived.ChangeArms
import Derived.ChangeOld
import Derived.OpenShut
import Derived.WideShapes
set_option linter.unusedVariables false
namespace Go.Proofs.Ytbpccdengeakgaa.AE
open Go Go.RowKit
def Alive (w : World) : Nat → Prop := fun b => b < w.heap.size
/-- A value of type t of m cells, read, is data that fits. -/
def OpI (P : Program) (t : TypeId) (m : Nat) (Fit : List D → Prop) : Prop :=
  ∀ (H : Type) (enc : TypeId × Value → H) (w : World) (fuel : Nat) (cs : List Value) (x : DataW H × List MemPlace),
    DataW.trod enc P w 0 (fun _ => true) true fuel t cs = some x → (∀ n ∈ x.1.weights P t, n ≤ reachBytes) → ∃ ds, ds.length = m ∧ ImL w (Alive w) ds cs ∧ (∀ d ∈ ds, D.leaf d = true) ∧ Fit ds
theorem opi_int {P : Program} {t : TypeId} {k : IntKind} (ht : P.underlying t = some (.int k)) : OpI P t 1 (fun ds => ∃ n, ds = [.int k n] ∧ (Lit.int k n).wf = true) := by
  intro H enc w fuel cs x h _
  obtain ⟨n, rfl, rfl, hw⟩ := DataW.trod_int ht h
  exact ⟨[.int k n], rfl, .cons (.int k n) .nil, by simp [D.leaf], n, rfl, hw⟩
theorem opi_bool {P : Program} {t : TypeId} (ht : P.underlying t = some .bool) : OpI P t 1 (fun ds => ∃ b, ds = [.bool b]) := by
  intro H enc w fuel cs x h _
  obtain ⟨b, rfl, rfl⟩ := DataW.trod_bool ht h
  exact ⟨[.bool b], rfl, .cons (.bool b) .nil, by simp [D.leaf], b, rfl⟩
theorem opi_string {P : Program} {t : TypeId} (ht : P.underlying t = some .string) : OpI P t 1 (fun ds => ∃ s, ds = [.str s] ∧ s.size ≤ 140737488351232) := by
  intro H enc w fuel cs x h hs
  obtain ⟨s, rfl, rfl, _⟩ := DataW.trod_string ht h
  refine ⟨[.str s], rfl, .cons (.str s) .nil, by simp [D.leaf], s, rfl, ?_⟩
  have := hs s.data.toList.length (by simp [DataW.weights])
  rw [Array.length_toList] at this
  exact this
theorem opi_imp {P : Program} {t : TypeId} {m : Nat} {Fit Fit' : List D → Prop} (h : OpI P t m Fit) (hi : ∀ a, Fit a → Fit' a) : OpI P t m Fit' := by
  intro H enc w fuel cs x hx hs
  obtain ⟨a, h1, h2, h3, h4⟩ := h H enc w fuel cs x hx hs
  exact ⟨a, h1, h2, h3, hi a h4⟩
theorem weightsAll_mem {H : Type} {P : Program} {e : TypeId} : ∀ {l : List (DataW H)} {d : DataW H}, d ∈ l → ∀ n ∈ d.weights P e, n ∈ DataW.weightsAll P e l
  | a :: l, d, hd, n, hn => by
    simp only [DataW.weightsAll, List.mem_append]
    rcases List.mem_cons.1 hd with rfl | hd
    · exact .inl hn
    · exact .inr (weightsAll_mem hd n hn)
theorem list_choose {α : Type} {Q : Nat → α → Prop} : ∀ n : Nat, (∀ i, i < n → ∃ a, Q i a) → ∃ l : List α, l.length = n ∧ ∀ i a, l[i]? = some a → Q i a
  | 0, _ => ⟨[], rfl, fun i a h => by simp at h⟩
  | n + 1, h => by
    obtain ⟨l, hl, hq⟩ := list_choose n (fun i hi => h i (by omega))
    obtain ⟨a, ha⟩ := h n (by omega)
    refine ⟨l ++ [a], by simp [hl], fun i b hb => ?_⟩
    rw [List.getElem?_append] at hb
    split at hb
    · exact hq i b hb
    · rename_i hi
      have : i = n := by
        have := (List.getElem?_eq_some_iff.1 hb).1
        simp at this
        omega
      subst this
      rw [hl, Nat.sub_self] at hb
      have : a = b := by simpa using hb
      subst this
      exact ha
theorem add_add (a : Addr) (i j : Nat) : a.add (i + j) = (a.add i).add j := by
  unfold Addr.add
  by_cases hj : j = 0
  · subst hj; simp
  · by_cases hi : i = 0
    · subst hi; simp [hj]
    · simp [hj, hi, Nat.add_assoc]
theorem cell_lt {w : World} {a : Addr} {v : Value} (h : w.cell? a = some v) : a.block < w.heap.size := by
  unfold World.cell? at h
  rcases Nat.lt_or_ge a.block w.heap.size with hl | hl
  · exact hl
  · rw [Array.getElem?_eq_none hl] at h; cases h
theorem opi_slice {P : Program} {t e : TypeId} {m : Nat} {Fit : List D → Prop} (ht : P.underlying t = some (.slice e)) (hsz : m = P.cellsOf e) (hm : m ≠ 0) (h : OpI P e m Fit) :
    OpI P t 1 (fun ds => ∃ xs, ds = [.isl xs] ∧ xs.length * P.bytesOf e ≤ 140737488351232 ∧ ∀ x ∈ xs, Fit x) := by
  intro H enc w fuel cs x hx hs
  rcases Go.Deep.open_slice ht hx with ⟨rfl, rfl⟩ | ⟨a, len, cap, mm, n, DD, Pl, rfl, _, hl, hcm, hmm, rfl, hi⟩
  · exact ⟨[.isl []], rfl, .cons (.isl (sz := m) (fun _ _ => undef) (Nat.le_refl _) (by simp) (by simp) (fun hn => absurd rfl hn) (fun i j x d hx => by simp at hx)) .nil, by simp [D.leaf], [], rfl, by simp, by simp⟩
  · have hmm' : mm = cap := by simpa using hmm
    subst hmm'
    have hw : ∀ i, i < mm → ∀ q ∈ (DD i).weights P e, q ≤ reachBytes := by
      intro i hi' q hq
      refine hs q ?_
      show q ∈ (DataW.slice ((List.range len).map DD) ((List.range (mm - len)).map fun j => DD (len + j))).weights P t
      simp only [DataW.weights, ht]
      refine List.mem_cons_of_mem _ (List.mem_append.2 ?_)
      by_cases hc : i < len
      · exact .inl (weightsAll_mem (List.mem_map.2 ⟨i, List.mem_range.2 hc, rfl⟩) q hq)
      · exact .inr (weightsAll_mem (List.mem_map.2 ⟨i - len, List.mem_range.2 (by omega), by rw [show len + (i - len) = i by omega]⟩) q hq)
    have hb : len * P.bytesOf e ≤ reachBytes := by
      have h0 := hs ((len + (mm - len)) * P.bytesOf e) (by
        show _ ∈ (DataW.slice ((List.range len).map DD) ((List.range (mm - len)).map fun j => DD (len + j))).weights P t
        simp only [DataW.weights, ht, List.length_map, List.length_range]
        exact List.mem_cons_self)
      exact Nat.le_trans (Nat.mul_le_mul_right _ (by omega)) h0
    obtain ⟨l, hll, hq⟩ := list_choose (α := List D × List Value) (Q := fun (i : Nat) (p : List D × List Value) => p.1.length = m ∧ ImL w (Alive w) p.1 p.2 ∧ (∀ d ∈ p.1, D.leaf d = true) ∧ Fit p.1 ∧ ∀ j u, p.2[j]? = some u → w.cell? (a.add (i * m + j)) = some u) len (fun i hlt => by
      obtain ⟨cs', h1, h2⟩ := hi i (by omega)
      obtain ⟨ds, k1, k2, k3, k4⟩ := h H enc w n cs' _ h2 (hw i (by omega))
      obtain ⟨_, hcl, hcc⟩ := World.cells?_some h1
      refine ⟨(ds, cs'), k1, k2, k3, k4, fun j u hj => ?_⟩
      have hlt : j < P.cellsOf e := by rw [← hcl]; exact (List.getElem?_eq_some_iff.1 hj).1
      have := hcc j hlt
      rw [hj] at this
      rw [hsz, ← this, add_add])
    have hget : ∀ (i : Nat) (x : List D), (l.map (·.1))[i]? = some x → ∃ p : List D × List Value, l[i]? = some p ∧ p.1 = x := by
      intro i x hx
      rw [List.getElem?_map, Option.map_eq_some_iff] at hx
      exact hx
    let F : Nat → Nat → Value := fun i j => ((l[i]?).map fun (p : List D × List Value) => p.2.getD j undef).getD undef
    have hF : ∀ (i j : Nat) (x : List D) (d : D), (l.map (·.1))[i]? = some x → x[j]? = some d → ∃ (p : List D × List Value) (u : Value), l[i]? = some p ∧ p.1 = x ∧ p.2[j]? = some u ∧ F i j = u := by
      intro i j x d hx hd
      obtain ⟨p, hp, rfl⟩ := hget i x hx
      have hpl := (hq i p hp).2.1.1
      have hj : j < p.2.length := by rw [← hpl]; exact (List.getElem?_eq_some_iff.1 hd).1
      have hu : p.2[j]? = some p.2[j] := List.getElem?_eq_getElem hj
      exact ⟨p, p.2[j], hp, rfl, hu, by simp [F, hp, List.getD_eq_getElem?_getD, hu]⟩
    refine ⟨[.isl (l.map (·.1))], rfl, ⟨by simp, fun j d v hd hv => ?_⟩, by simp [D.leaf], l.map (·.1), rfl, by rw [List.length_map, hll]; exact hb, fun x hx => ?_⟩
    · cases j with
      | succ j => simp at hd
      | zero =>
        obtain rfl : D.isl (l.map (·.1)) = d := by simpa using hd
        obtain rfl : Value.slice (some a) len mm = v := by simpa using hv
        have := Im.isl (w := w) (I := Alive w) (xs := l.map (·.1)) (A := some a) (c := mm) (sz := m) F (by simp [hll]; omega) (fun x hx => by
            obtain ⟨p, hp, rfl⟩ := List.mem_map.1 hx
            obtain ⟨i, hi⟩ := List.getElem?_of_mem hp
            exact (hq i p hi).1) (fun x hx => by
            obtain ⟨p, hp, rfl⟩ := List.mem_map.1 hx
            obtain ⟨i, hi⟩ := List.getElem?_of_mem hp
            exact (hq i p hi).2.2.1) (fun hne => ⟨a, rfl, ?_, fun i j x d hx hd => ?_⟩) (fun i j x d hx hd => ?_)
        · rw [List.length_map, hll] at this; exact this
        · cases hl0 : l with
          | nil => rw [hl0] at hne; exact absurd rfl hne
          | cons p r =>
            have hp : l[0]? = some p := by rw [hl0]; rfl
            have h1 := hq 0 p hp
            have hj : 0 < p.2.length := by rw [← h1.2.1.1, h1.1]; omega
            have := cell_lt (h1.2.2.2.2 0 _ (List.getElem?_eq_getElem hj))
            rw [add_block] at this
            exact this
        · obtain ⟨p, u, hp, rfl, hu, hf⟩ := hF i j x d hx hd
          rw [hf]
          exact (hq i p hp).2.2.2.2 j u hu
        · obtain ⟨p, u, hp, rfl, hu, hf⟩ := hF i j x d hx hd
          rw [hf]
          exact (hq i p hp).2.1.2 j d u hd hu
    · obtain ⟨p, hp, rfl⟩ := List.mem_map.1 hx
      obtain ⟨i, hi⟩ := List.getElem?_of_mem hp
      exact (hq i p hi).2.2.2.1
/-- The fields fs, from the cell off on. -/
def OpIF (P : Program) (fs : List Field) (off m : Nat) (Fit : List D → Prop) : Prop :=
  ∀ (H : Type) (enc : TypeId × Value → H) (w : World) (n : Nat) (cs : List Value) (xs : List (DataW H × List MemPlace)), cs.length = off + m → xs.length = fs.length →
    (∀ (i : Nat) (f : Field), fs[i]? = some f → DataW.trod enc P w 0 (fun _ => true) true n f.type ((cs.drop f.offset).take (P.cellsOf f.type)) = xs[i]?) →
    (∀ q ∈ DataW.weightsEach P (fs.map (·.type)) (xs.map (·.1)), q ≤ reachBytes) → ∃ ds, ds.length = m ∧ ImL w (Alive w) ds (cs.drop off) ∧ (∀ d ∈ ds, D.leaf d = true) ∧ Fit ds
theorem opf_one {P : Program} {f : Field} {off m : Nat} {Fit : List D → Prop} (ho : f.offset = off) (hsz : m = P.cellsOf f.type) (h : OpI P f.type m Fit) : OpIF P [f] off m Fit := by
  intro H enc w n cs xs hl hx hi hs
  match xs, hx with
  | [x], _ =>
    have h0 := hi 0 f rfl
    rw [ho, List.take_of_length_le (by rw [List.length_drop]; omega)] at h0
    exact h H enc w n _ x h0 (fun q hq => hs q (by simp only [List.map_cons, List.map_nil, DataW.weightsEach, List.append_nil]; exact hq))
theorem imL_app {w : World} {I : Nat → Prop} {a b : List D} {u v : List Value} (h1 : ImL w I a u) (h2 : ImL w I b v) : ImL w I (a ++ b) (u ++ v) := by
  refine ⟨by simp [h1.1, h2.1], fun j d x hd hx => ?_⟩
  rw [List.getElem?_append] at hd hx
  rw [h1.1] at hd
  split at hd
  · rename_i hj
    rw [if_pos hj] at hx
    exact h1.2 j d x hd hx
  · rename_i hj
    rw [if_neg hj] at hx
    exact h2.2 _ d x hd hx
theorem opf_cons {P : Program} {f : Field} {fs : List Field} {off m m' : Nat} {Fit Fit' : List D → Prop} (ho : f.offset = off) (hsz : m = P.cellsOf f.type) (h : OpI P f.type m Fit)
    (h' : OpIF P fs (off + m) m' Fit') : OpIF P (f :: fs) off (m + m') (fun ds => ∃ a b, ds = a ++ b ∧ Fit a ∧ Fit' b) := by
  intro H enc w n cs xs hl hx hi hs
  match xs, hx with
  | x :: xs, hx =>
    have h0 := hi 0 f rfl
    rw [ho] at h0
    simp only [List.map_cons, DataW.weightsEach, List.mem_append] at hs
    obtain ⟨a, a1, a2, a3, a4⟩ := h H enc w n _ x h0 (fun q hq => hs q (.inl hq))
    obtain ⟨b, b1, b2, b3, b4⟩ := h' H enc w n cs xs (by omega) (by simpa using hx) (fun i g hg => hi (i + 1) g hg) (fun q hq => hs q (.inr hq))
    refine ⟨a ++ b, by simp [a1, b1], ?_, fun d hd => (List.mem_append.1 hd).elim (a3 d) (b3 d), a, b, rfl, a4, b4⟩
    have : cs.drop off = (cs.drop off).take (P.cellsOf f.type) ++ cs.drop (off + m) := by rw [hsz, ← List.drop_drop, List.take_append_drop]
    rw [this]
    exact imL_app a2 b2
theorem opi_struct {P : Program} {t : TypeId} {fs : Array Field} {m : Nat} {Fit : List D → Prop} (ht : P.underlying t = some (.struct fs)) (hsz : m = P.cellsOf t) (h : OpIF P fs.toList 0 m Fit) : OpI P t m Fit := by
  intro H enc w fuel cs x hx hs
  obtain ⟨xs, n, _, rfl, hl, hlen, hf⟩ := DataW.trod_struct ht hx
  have := h H enc w n cs xs (by omega) (by simpa using hlen) (fun i f hi => hf i f (by simpa using hi)) (fun q hq => hs q (by simp only [DataW.weights, ht]; exact hq))
  simpa using this
theorem imL_flat {w : World} {I : Nat → Prop} {cs : List Value} {c : Nat} : ∀ (l : List (List D)) (k : Nat), (∀ i a, l[i]? = some a → ImL w I a ((cs.drop ((k + i) * c)).take c)) → ImL w I l.flatten ((cs.drop (k * c)).take (l.length * c))
  | [], k, _ => by
    simp only [List.flatten_nil, List.length_nil, Nat.zero_mul, List.take_zero]
    exact .nil
  | a :: l, k, h => by
    have h1 := h 0 a rfl
    have h2 := imL_flat l (k + 1) (fun i b hb => by rw [show k + 1 + i = k + (i + 1) by omega]; exact h (i + 1) b hb)
    rw [Nat.add_zero] at h1
    have : (cs.drop (k * c)).take ((a :: l).length * c) = (cs.drop (k * c)).take c ++ (cs.drop ((k + 1) * c)).take (l.length * c) := by
      rw [List.length_cons, show (l.length + 1) * c = c + l.length * c by rw [Nat.add_mul, Nat.one_mul, Nat.add_comm], List.take_add, List.drop_drop, show k * c + c = (k + 1) * c by rw [Nat.add_mul, Nat.one_mul]]
    rw [this]
    exact imL_app h1 h2
theorem flat_len {l : List (List D)} {c : Nat} (h : ∀ a ∈ l, a.length = c) : l.flatten.length = l.length * c := by
  induction l with
  | nil => simp
  | cons a r ih =>
    have h1 := h a (by simp)
    have h2 := ih (fun b hb => h b (by simp [hb]))
    simp only [List.flatten_cons, List.length_append, List.length_cons, h1, h2, Nat.add_mul, Nat.one_mul]
    omega
theorem opi_array {P : Program} {t e : TypeId} {n c m : Nat} {Fit : List D → Prop} (ht : P.underlying t = some (.array n e)) (hc : c = P.cellsOf e) (hsz : m = P.cellsOf t) (hm : m = n * c) (h : OpI P e c Fit) :
    OpI P t m (fun ds => ∃ l : List (List D), l.length = n ∧ ds = l.flatten ∧ ∀ x ∈ l, Fit x) := by
  intro H enc w fuel cs x hx hs
  obtain ⟨xs, k, _, rfl, hl, hlen, hf⟩ := DataW.trod_array ht hx
  have hw : ∀ (i : Nat) (y : DataW H × List MemPlace), xs[i]? = some y → ∀ q ∈ y.1.weights P e, q ≤ reachBytes := by
    intro i y hy q hq
    refine hs q ?_
    simp only [DataW.weights, ht]
    exact weightsAll_mem (List.mem_map.2 ⟨y, List.mem_of_getElem? hy, rfl⟩) q hq
  obtain ⟨l, hll, hq⟩ := list_choose (α := List D) (Q := fun (i : Nat) (a : List D) => a.length = c ∧ ImL w (Alive w) a ((cs.drop (i * c)).take c) ∧ (∀ d ∈ a, D.leaf d = true) ∧ Fit a) n (fun i hi => by
    have hi' : i < xs.length := by omega
    have h0 := hf i hi
    rw [List.getElem?_eq_getElem hi'] at h0
    rw [← hc] at h0
    exact h H enc w k _ _ h0 (hw i _ (List.getElem?_eq_getElem hi')))
  have hfl := flat_len (l := l) (c := c) (fun a ha => by obtain ⟨i, hi⟩ := List.getElem?_of_mem ha; exact (hq i a hi).1)
  refine ⟨l.flatten, by rw [hfl, hll, hm], ?_, ?_, l, hll, rfl, ?_⟩
  · have h1 := imL_flat (cs := cs) (c := c) l 0 (fun i a ha => by rw [Nat.zero_add]; exact (hq i a ha).2.1)
    rw [Nat.zero_mul, List.drop_zero, List.take_of_length_le (by rw [hll, ← hm, hsz, hl]; exact Nat.le_refl _)] at h1
    exact h1
  · intro d hd
    obtain ⟨a, ha, hda⟩ := List.mem_flatten.1 hd
    obtain ⟨i, hi⟩ := List.getElem?_of_mem ha
    exact (hq i a hi).2.2.1 d hda
  · intro a ha
    obtain ⟨i, hi⟩ := List.getElem?_of_mem ha
    exact (hq i a hi).2.2.2
/-- One argument of one cell. -/
theorem opi_arg {P : Program} {t : TypeId} {Fit : List D → Prop} (h : OpI P t 1 Fit) {H : Type} {enc : TypeId × Value → H} {W : World} {v : Value} {dd : DataW H} {ps : List MemPlace} (hk : DataW.Trod enc P W 0 (fun _ => true) true t v dd ps)
    (hv : v.cells.toList = [v]) {ts : List TypeId} {ds : List (DataW H)} (hs : (DataW.weightsEach P ts ds).all (· ≤ reachBytes) = true) (j : Nat) (ht : ts[j]? = some t) (hd : ds[j]? = some dd) : ∃ d, Im W (Alive W) d v ∧ Fit [d] := by
  obtain ⟨fuel, hf⟩ := hk
  obtain ⟨l, h1, h2, _, h4⟩ := h H enc W fuel _ _ hf (fun n hn => by
    have := List.all_eq_true.1 hs n (DataW.weights_mem_each ht hd n hn)
    simpa using this)
  match l, h1 with
  | [d], _ =>
    rw [hv] at h2
    exact ⟨d, h2.2 0 d v rfl rfl, h4⟩
/-- One argument that is a struct or an array. -/
theorem opi_argA {P : Program} {t : TypeId} {m : Nat} {Fit : List D → Prop} (h : OpI P t m Fit) {H : Type} {enc : TypeId × Value → H} {W : World} {cs : Array Value} {dd : DataW H} {ps : List MemPlace} (hk : DataW.Trod enc P W 0 (fun _ => true) true t (.agg cs) dd ps)
    {ts : List TypeId} {ds : List (DataW H)} (hs : (DataW.weightsEach P ts ds).all (· ≤ reachBytes) = true) (j : Nat) (ht : ts[j]? = some t) (hd : ds[j]? = some dd) : ∃ l, Im W (Alive W) (.agg l) (.agg cs) ∧ Fit l := by
  obtain ⟨fuel, hf⟩ := hk
  obtain ⟨l, h1, h2, _, h4⟩ := h H enc W fuel _ _ hf (fun n hn => by
    have := List.all_eq_true.1 hs n (DataW.weights_mem_each ht hd n hn)
    simpa using this)
  have h2' : ImL W (Alive W) l cs.toList := h2
  exact ⟨l, .agg cs.toList h2'.1 h2'.2, h4⟩
theorem arg_lt {H : Type} {enc : TypeId × Value → H} {P : Program} {W : World} {base : Nat} {spare : Nat → Bool} {held : Bool} {t : TypeId} {v : Value} {dd : DataW H} {ps : List MemPlace} (hk : DataW.Trod enc P W base spare held t v dd ps) : ∀ x ∈ ps, x.block < W.heap.size := by
  obtain ⟨fuel, hf⟩ := hk
  exact DataW.trod_lt fuel _ _ _ hf
theorem okWide_row {P : Program} {w : World} {r : Reach} {base : Nat} {t : TypeId} {v : Value} {n : Nat} {e : TypeId} (ht : P.underlying t = some (.array n e)) (h : Value.okWide P w r base t v) : ∃ cs, v = .agg cs := by
  simp only [Value.okWide, ht] at h
  obtain ⟨cs, h1, _⟩ := h
  exact ⟨cs, h1⟩
/-- A law that AE answers true, over memory. -/
theorem law_calls {P : Program} {xp : Nat → Option XF} {md : Nat → Bool} (HC : ∀ n, CallsOk P (runF xp md n)) {f : Nat} {args : List D} (hc : callP (Lv xp md) f args = some [.bool true]) {W : World} {vs : List Value} (hv : ImL W (Alive W) args vs) :
    Calls P f vs.toArray W (fun en w' => en = .returned (.bool true) ∧ Below W.heap.size W w') := by
  obtain ⟨n, hn⟩ := Fv_run hc
  refine (callP_ok (HC n) hn (fun b hb => hb) hv).2.mono ?_
  rintro en w' ⟨rs, I', U, rfl, bel, _, _, _, ho, _⟩
  obtain ⟨v, q, rfl, ho⟩ := ho
  obtain ⟨hm, hr⟩ := ho
  cases hm
  obtain ⟨rfl, _⟩ := hr
  exact ⟨rfl, bel⟩
end Go.Proofs.Ytbpccdengeakgaa.AE
