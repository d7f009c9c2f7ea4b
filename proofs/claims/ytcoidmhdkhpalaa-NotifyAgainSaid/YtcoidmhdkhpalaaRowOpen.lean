/-
  What an argument that is read is, kind by kind: out of the reading and its weights, the words' kind of its cells and its bounds. No program of the claim in sight but its words.
-/
import Derived.Test.YtcoidmhdkhpalaaWWords
import Derived.Deep.Slices
import Derived.SizedLaws
import Derived.ChangeArms
import Derived.ChangeOld
namespace Go.Proofs.Ytcoidmhdkhpalaa.Opn
open Go.RowKit Go.Proofs.YtcoidmhdkhpalaaW.PrintWords

/-- A value of type t, read, is of kind d, and fits. -/
def Opn {α : Type} (P : Program) (t : TypeId) (d : Kd α) (Fit : α → Prop) : Prop :=
  ∀ (H : Type) (enc : TypeId × Value → H) (w : World) (fuel : Nat) (cs : List Value) (x : DataW H × List MemPlace),
    DataW.trod enc P w 0 (fun _ => true) true fuel t cs = some x → (∀ n ∈ x.1.weights P t, n ≤ reachBytes) → ∃ a, d.K w a cs ∧ Fit a

theorem opn_int {P : Program} {t : TypeId} {k : IntKind} (ht : P.underlying t = some (.int k)) : Opn P t (Kd.int k) (fun n => (Lit.int k n).wf = true) := by
  intro H enc w fuel cs x h _
  obtain ⟨n, rfl, rfl, hw⟩ := DataW.trod_int ht h
  exact ⟨n, rfl, hw⟩
theorem opn_bool {P : Program} {t : TypeId} (ht : P.underlying t = some .bool) : Opn P t Kd.bool (fun _ => True) := by
  intro H enc w fuel cs x h _
  obtain ⟨b, rfl, rfl⟩ := DataW.trod_bool ht h
  exact ⟨b, rfl, trivial⟩
theorem opn_string {P : Program} {t : TypeId} (ht : P.underlying t = some .string) : Opn P t Kd.string (fun s => s.size ≤ 140737488351232) := by
  intro H enc w fuel cs x h hs
  obtain ⟨s, rfl, rfl, _⟩ := DataW.trod_string ht h
  refine ⟨s, rfl, ?_⟩
  have := hs s.data.toList.length (by simp [DataW.weights])
  rw [Array.length_toList] at this
  exact this
theorem opn_iso {α β : Type} {P : Program} {t : TypeId} {d : Kd α} {Fit : α → Prop} (f : β → α) (g : α → β) (hfg : ∀ a, f (g a) = a) (h : Opn P t d Fit) : Opn P t (Kd.iso d f) (fun b => Fit (f b)) := by
  intro H enc w fuel cs x hx hs
  obtain ⟨a, hk, hf⟩ := h H enc w fuel cs x hx hs
  refine ⟨g a, ?_, ?_⟩
  · show d.K w (f (g a)) cs
    rw [hfg]
    exact hk
  · show Fit (f (g a))
    rw [hfg]
    exact hf
theorem opn_imp {α : Type} {P : Program} {t : TypeId} {d : Kd α} {Fit Fit' : α → Prop} (h : Opn P t d Fit) (hi : ∀ a, Fit a → Fit' a) : Opn P t d Fit' := by
  intro H enc w fuel cs x hx hs
  obtain ⟨a, hk, hf⟩ := h H enc w fuel cs x hx hs
  exact ⟨a, hk, hi a hf⟩

theorem weightsAll_mem {H : Type} {P : Program} {e : TypeId} : ∀ {l : List (DataW H)} {d : DataW H}, d ∈ l → ∀ n ∈ d.weights P e, n ∈ DataW.weightsAll P e l
  | a :: l, d, hd, n, hn => by
    simp only [DataW.weightsAll, List.mem_append]
    rcases List.mem_cons.1 hd with rfl | hd
    · exact .inl hn
    · exact .inr (weightsAll_mem hd n hn)
theorem weightsEach_mem {H : Type} {P : Program} : ∀ {ts : List TypeId} {l : List (DataW H)} {j : Nat} {t : TypeId} {d : DataW H}, ts[j]? = some t → l[j]? = some d → ∀ n ∈ d.weights P t, n ∈ DataW.weightsEach P ts l := DataW.weights_mem_each

theorem list_choose {α : Type} {Q : Nat → α → Prop} : ∀ n : Nat, (∀ i, i < n → ∃ a, Q i a) → ∃ l : List α, l.length = n ∧ ∀ i a, l[i]? = some a → Q i a
  | 0, _ => ⟨[], rfl, fun i a h => by simp at h⟩
  | n + 1, h => by
    obtain ⟨l, hl, hq⟩ := list_choose n (fun i hi => h i (by omega))
    obtain ⟨a, ha⟩ := h n (by omega)
    refine ⟨l ++ [a], by simp [hl], fun i b hb => ?_⟩
    rw [List.getElem?_append] at hb
    split at hb
    · exact hq i b hb
    · rename_i hi
      have : i = n := by
        have := (List.getElem?_eq_some_iff.1 hb).1
        simp at this
        omega
      subst this
      rw [hl, Nat.sub_self] at hb
      have : a = b := by simpa using hb
      subst this
      exact ha

theorem add_add (a : Addr) (i j : Nat) : a.add (i + j) = (a.add i).add j := by
  unfold Addr.add
  by_cases hj : j = 0
  · subst hj; simp
  · by_cases hi : i = 0
    · subst hi; simp [hj]
    · simp [hj, hi, Nat.add_assoc]
theorem opn_slice {α : Type} {P : Program} {t e : TypeId} {d : Kd α} {Fit : α → Prop} (ht : P.underlying t = some (.slice e)) (hsz : d.sz = P.cellsOf e) (h : Opn P e d Fit) :
    Opn P t (Kd.slice e d) (fun xs => xs.length * P.bytesOf e ≤ 140737488351232 ∧ ∀ x ∈ xs, Fit x) := by
  intro H enc w fuel cs x hx hs
  rcases Go.Deep.open_slice ht hx with ⟨rfl, rfl⟩ | ⟨a, len, cap, m, n, D, Pl, rfl, _, hl, hm, hmm, rfl, hi⟩
  · refine ⟨[], ⟨none, 0, rfl, Nat.le_refl _, rfl, by simp, fun h0 => absurd h0 (by simp)⟩, by simp, by simp⟩
  · have hmm' : m = cap := by simpa using hmm
    subst hmm'
    have hw : ∀ i, i < m → ∀ q ∈ (D i).weights P e, q ≤ reachBytes := by
      intro i hi' q hq
      refine hs q ?_
      show q ∈ (DataW.slice ((List.range len).map D) ((List.range (m - len)).map fun j => D (len + j))).weights P t
      simp only [DataW.weights, ht]
      refine List.mem_cons_of_mem _ (List.mem_append.2 ?_)
      by_cases hc : i < len
      · exact .inl (weightsAll_mem (List.mem_map.2 ⟨i, List.mem_range.2 hc, rfl⟩) q hq)
      · exact .inr (weightsAll_mem (List.mem_map.2 ⟨i - len, List.mem_range.2 (by omega), by rw [show len + (i - len) = i by omega]⟩) q hq)
    have hb : len * P.bytesOf e ≤ reachBytes := by
      have h0 := hs ((len + (m - len)) * P.bytesOf e) (by
        show _ ∈ (DataW.slice ((List.range len).map D) ((List.range (m - len)).map fun j => D (len + j))).weights P t
        simp only [DataW.weights, ht, List.length_map, List.length_range]
        exact List.mem_cons_self)
      exact Nat.le_trans (Nat.mul_le_mul_right _ (by omega)) h0
    obtain ⟨l, hll, hq⟩ := list_choose (Q := fun i b => (∃ c, c.length = d.sz ∧ d.K w b c ∧ ∀ j u, c[j]? = some u → w.cell? (a.add (i * d.sz + j)) = some u) ∧ Fit b) len (fun i hlt => by
      obtain ⟨cs', h1, h2⟩ := hi i (by omega)
      obtain ⟨b, hk, hf⟩ := h H enc w n cs' _ h2 (hw i (by omega))
      obtain ⟨_, hcl, hcc⟩ := World.cells?_some h1
      refine ⟨b, ⟨cs', by rw [hcl, hsz], hk, fun j u hj => ?_⟩, hf⟩
      have hlt : j < P.cellsOf e := by rw [← hcl]; exact (List.getElem?_eq_some_iff.1 hj).1
      have := hcc j hlt
      rw [hj] at this
      rw [hsz, ← this]
      rw [add_add])
    refine ⟨l, ⟨some a, m, by rw [hll], by omega, rfl, by simp only [maxLen] at hm; omega, fun _ => ⟨a, rfl, fun j b hj => (hq j b hj).1⟩⟩, by rw [hll]; exact hb, fun b hb => ?_⟩
    obtain ⟨j, hj⟩ := List.mem_iff_getElem?.1 hb
    exact (hq j b hj).2

/-- The fields fs, from the cell off on. -/
def OpF {α : Type} (P : Program) (fs : List Field) (off : Nat) (d : Kd α) (Fit : α → Prop) : Prop :=
  ∀ (H : Type) (enc : TypeId × Value → H) (w : World) (n : Nat) (cs : List Value) (xs : List (DataW H × List MemPlace)), cs.length = off + d.sz → xs.length = fs.length →
    (∀ (i : Nat) (f : Field), fs[i]? = some f → DataW.trod enc P w 0 (fun _ => true) true n f.type ((cs.drop f.offset).take (P.cellsOf f.type)) = xs[i]?) →
    (∀ q ∈ DataW.weightsEach P (fs.map (·.type)) (xs.map (·.1)), q ≤ reachBytes) → ∃ a, d.K w a (cs.drop off) ∧ Fit a
theorem opf_one {α : Type} {P : Program} {f : Field} {off : Nat} {d : Kd α} {Fit : α → Prop} (ho : f.offset = off) (hsz : d.sz = P.cellsOf f.type) (h : Opn P f.type d Fit) : OpF P [f] off d Fit := by
  intro H enc w n cs xs hl hx hi hs
  match xs, hx with
  | [x], _ =>
    have h0 := hi 0 f rfl
    rw [ho, List.take_of_length_le (by rw [List.length_drop]; omega)] at h0
    exact h H enc w n _ x h0 (fun q hq => hs q (by simp only [List.map_cons, List.map_nil, DataW.weightsEach, List.append_nil]; exact hq))
theorem opf_cons {α β : Type} {P : Program} {f : Field} {fs : List Field} {off : Nat} {d : Kd α} {d' : Kd β} {Fit : α → Prop} {Fit' : β → Prop} (ho : f.offset = off) (hsz : d.sz = P.cellsOf f.type) (h : Opn P f.type d Fit)
    (h' : OpF P fs (off + d.sz) d' Fit') : OpF P (f :: fs) off (Kd.pair d d') (fun a => Fit a.1 ∧ Fit' a.2) := by
  intro H enc w n cs xs hl hx hi hs
  have hl' : cs.length = off + (d.sz + d'.sz) := hl
  match xs, hx with
  | x :: xs, hx =>
    have h0 := hi 0 f rfl
    rw [ho] at h0
    simp only [List.map_cons, DataW.weightsEach, List.mem_append] at hs
    obtain ⟨a, hk, hf⟩ := h H enc w n _ x h0 (fun q hq => hs q (.inl hq))
    obtain ⟨b, hk', hf'⟩ := h' H enc w n cs xs (by omega) (by simpa using hx) (fun i g hg => hi (i + 1) g hg) (fun q hq => hs q (.inr hq))
    refine ⟨(a, b), ⟨(cs.drop off).take (P.cellsOf f.type), cs.drop (off + d.sz), ?_, hk, hk'⟩, hf, hf'⟩
    rw [← hsz, ← List.drop_drop, List.take_append_drop]
theorem opn_struct {α : Type} {P : Program} {t : TypeId} {fs : Array Field} {d : Kd α} {Fit : α → Prop} (ht : P.underlying t = some (.struct fs)) (hsz : d.sz = P.cellsOf t) (h : OpF P fs.toList 0 d Fit) : Opn P t d Fit := by
  intro H enc w fuel cs x hx hs
  obtain ⟨xs, n, _, rfl, hl, hlen, hf⟩ := DataW.trod_struct ht hx
  have := h H enc w n cs xs (by omega) (by simpa using hlen) (fun i f hi => hf i f (by simpa using hi)) (fun q hq => hs q (by simp only [DataW.weights, ht]; exact hq))
  simpa using this

/-- A type nested in itself: by the reading's own depth. -/
theorem opn_upto {α : Type} {P : Program} {t : TypeId} {F : Kd α → Kd α} {sz : Nat} {E : List Nat} {Fit : α → Prop}
    (hstep : ∀ (d : Kd α) (m : Nat), d.sz = sz → (∀ (H : Type) (enc : TypeId × Value → H) (w : World) (cs : List Value) (x : DataW H × List MemPlace) (fuel : Nat), fuel ≤ m → DataW.trod enc P w 0 (fun _ => true) true fuel t cs = some x → (∀ n ∈ x.1.weights P t, n ≤ reachBytes) → ∃ a, d.K w a cs ∧ Fit a) →
      ∀ (H : Type) (enc : TypeId × Value → H) (w : World) (cs : List Value) (x : DataW H × List MemPlace) (fuel : Nat), fuel ≤ m + 1 → DataW.trod enc P w 0 (fun _ => true) true fuel t cs = some x → (∀ n ∈ x.1.weights P t, n ≤ reachBytes) → ∃ a, (F d).K w a cs ∧ Fit a)
    (hs : ∀ n, (Kd.upto F sz E n).sz = sz) (hE : ∀ n q, q ∈ (Kd.upto F sz E n).E → q ∈ E) : Opn P t (Kd.fix F sz E hs hE) Fit := by
  have key : ∀ m, ∀ (H : Type) (enc : TypeId × Value → H) (w : World) (cs : List Value) (x : DataW H × List MemPlace) (fuel : Nat), fuel ≤ m → DataW.trod enc P w 0 (fun _ => true) true fuel t cs = some x → (∀ n ∈ x.1.weights P t, n ≤ reachBytes) → ∃ a, (Kd.upto F sz E m).K w a cs ∧ Fit a := by
    intro m
    induction m with
    | zero =>
      intro H enc w cs x fuel hf h _
      obtain rfl : fuel = 0 := by omega
      simp [DataW.trod] at h
    | succ m ih => exact hstep _ m (hs m) ih
  intro H enc w fuel cs x h hw
  obtain ⟨a, hk, hf⟩ := key fuel H enc w cs x fuel (Nat.le_refl _) h hw
  exact ⟨a, ⟨fuel, hk⟩, hf⟩

/-- One argument of the row: its value's shape is known by okWide, its cells by Opn. -/
theorem opn_arg {α : Type} {P : Program} {t : TypeId} {d : Kd α} {Fit : α → Prop} (h : Opn P t d Fit) {H : Type} {enc : TypeId × Value → H} {W : World} {v : Value} {dd : DataW H} {ps : List MemPlace} (hk : DataW.Trod enc P W 0 (fun _ => true) true t v dd ps)
    {ts : List TypeId} {ds : List (DataW H)} (hs : (DataW.weightsEach P ts ds).all (· ≤ reachBytes) = true) (j : Nat) (ht : ts[j]? = some t) (hd : ds[j]? = some dd) : ∃ a, d.K W a v.cells.toList ∧ Fit a := by
  obtain ⟨fuel, hf⟩ := hk
  refine h H enc W fuel _ _ hf (fun n hn => ?_)
  have := List.all_eq_true.1 hs n (DataW.weights_mem_each ht hd n hn)
  simpa using this
/-- The places that an argument reads lie below the heap's end. -/
theorem arg_lt {H : Type} {enc : TypeId × Value → H} {P : Program} {W : World} {base : Nat} {spare : Nat → Bool} {held : Bool} {t : TypeId} {v : Value} {dd : DataW H} {ps : List MemPlace} (hk : DataW.Trod enc P W base spare held t v dd ps) : ∀ x ∈ ps, x.block < W.heap.size := by
  obtain ⟨fuel, hf⟩ := hk
  exact DataW.trod_lt fuel _ _ _ hf
end Go.Proofs.Ytcoidmhdkhpalaa.Opn
