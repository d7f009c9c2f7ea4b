/-
  AE, part 3: the blocks of the call's own, and what each kind of step leaves of them.
-/
import Derived.Test.YtbpccdengeakgaaAE2
set_option linter.unusedVariables false
namespace Go.Proofs.Ytbpccdengeakgaa.AE
open Go Go.RowKit

theorem flat_length {α : Type} {sz : Nat} : ∀ {xs : List (List α)}, (∀ x ∈ xs, x.length = sz) → xs.flatten.length = xs.length * sz
  | [], _ => by simp
  | x :: r, h => by
    rw [List.flatten_cons, List.length_append, h x (by simp), flat_length (fun y hy => h y (by simp [hy])), List.length_cons, Nat.succ_mul, Nat.add_comm]
theorem flat_get {α : Type} {sz : Nat} : ∀ {xs : List (List α)} {i j : Nat} {x : List α}, (∀ x ∈ xs, x.length = sz) → xs[i]? = some x → j < sz → xs.flatten[i * sz + j]? = x[j]?
  | [], i, j, x, _, h, _ => by simp at h
  | y :: r, 0, j, x, hl, h, hj => by
    have : y = x := by simpa using h
    subst this
    rw [List.flatten_cons, Nat.zero_mul, Nat.zero_add, List.getElem?_append_left (by rw [hl y (by simp)]; exact hj)]
  | y :: r, i + 1, j, x, hl, h, hj => by
    have hy := hl y (by simp)
    rw [List.flatten_cons, Nat.succ_mul, List.getElem?_append_right (by omega), show i * sz + sz + j - y.length = i * sz + j by omega]
    exact flat_get (fun x hx => hl x (by simp [hx])) (by simpa using h) hj
theorem spl_left {α : Type} (x r ds : List α) (o : Nat) (h : o + ds.length ≤ x.length) : (x.take o ++ ds ++ x.drop (o + ds.length)) ++ r = (x ++ r).take o ++ ds ++ (x ++ r).drop (o + ds.length) := by
  rw [List.take_append_of_le_length (by omega), List.drop_append_of_le_length h]
  simp
theorem spl_right {α : Type} (x r ds : List α) (o : Nat) : x ++ (r.take o ++ ds ++ r.drop (o + ds.length)) = (x ++ r).take (x.length + o) ++ ds ++ (x ++ r).drop (x.length + o + ds.length) := by
  rw [List.take_append, List.drop_append]
  rw [List.take_of_length_le (show x.length ≤ x.length + o by omega), List.drop_eq_nil_of_le (show x.length ≤ x.length + o + ds.length by omega), show x.length + o - x.length = o by omega, show x.length + o + ds.length - x.length = o + ds.length by omega]
  simp
theorem flat_set {sz : Nat} : ∀ {xs : List (List D)} {i o : Nat} {x ds : List D}, (∀ x ∈ xs, x.length = sz) → xs[i]? = some x → o + ds.length ≤ x.length → (xs.set i (spl x o ds)).flatten = spl xs.flatten (i * sz + o) ds
  | [], i, o, x, ds, _, h, _ => by simp at h
  | y :: r, 0, o, x, ds, hl, h, hj => by
    have : y = x := by simpa using h
    subst this
    unfold spl
    rw [List.set_cons_zero, List.flatten_cons, List.flatten_cons, Nat.zero_mul, Nat.zero_add, spl_left y r.flatten ds o hj]
  | y :: r, i + 1, o, x, ds, hl, h, hj => by
    have hy := hl y (by simp)
    have ih := flat_set (fun x hx => hl x (by simp [hx])) (show r[i]? = some x by simpa using h) hj
    rw [List.set_cons_succ, List.flatten_cons, ih, List.flatten_cons]
    unfold spl
    rw [spl_right, hy]
    congr 2
    · rw [Nat.succ_mul, show sz + (i * sz + o) = i * sz + sz + o by omega]
    · rw [Nat.succ_mul, show sz + (i * sz + o) + ds.length = i * sz + sz + o + ds.length by omega]
theorem spl_length {α : Type} {cs ds : List α} {o : Nat} (h : o + ds.length ≤ cs.length) : (spl cs o ds).length = cs.length := by unfold spl; simp; omega

def Ob.isOwn : Ob → Bool
  | .no => false
  | .var _ o => o
  | .row _ _ _ o => o
  | .mp _ => true
def MpOk (w : World) (I : Nat → Prop) (es : List (ByteArray × D)) (ens : List MapEntry) : Prop :=
  es.length = ens.length ∧ ∀ (j : Nat) (k : ByteArray) (d : D) (en : MapEntry), es[j]? = some (k, d) → ens[j]? = some en → en.key = .string k ∧ Im w I d en.val
/-- What a block of the call's own is. -/
def ObOk (B : Nat) (I : Nat → Prop) (μ : Mu) (w : World) (l : Nat) : Ob → Prop
  | .no => True
  | .var cs own => ∃ p b vs ty, μ l = some p ∧ p.b = some b ∧ B ≤ b ∧ w.heap[b]? = some (.cells (vs : List Value).toArray ty (0, 0)) ∧ (∀ d ∈ cs, D.leaf d = true) ∧ RpL w I μ cs vs ∧ (own = true → ¬ I b) ∧ (own = false → I b ∧ ImL w I cs vs)
  | .row e sz xs own => ∃ p cells, μ l = some p ∧ p.sz = sz ∧ 0 < sz ∧ p.b = p.val.ownBlock ∧ w.ownsRow B e sz p.val xs.length cells ∧ (∀ x ∈ xs, x.length = sz) ∧ (∀ x ∈ xs, ∀ d ∈ x, D.leaf d = true) ∧ ImL w I xs.flatten cells ∧ (own = true → ∀ b, p.b = some b → ¬ I b) ∧ (own = false → ∀ b, p.b = some b → I b)
  | .mp es => ∃ p b ens clk, μ l = some p ∧ p.b = some b ∧ B ≤ b ∧ w.heap[b]? = some (.map (ens : List MapEntry).toArray clk) ∧ MpOk w I es ens ∧ ¬ I b

/-- All of them. -/
structure Inv (B : Nat) (w0 : World) (I : Nat → Prop) (μ : Mu) (h : Hp) (w : World) : Prop where
  below : Below B w0 w
  hB : B ≤ w.heap.size
  lt : ∀ b, I b → b < w.heap.size
  ob : ∀ l, ObOk B I μ w l (h l)
  dis : ∀ l l' p p' b, l ≠ l' → (h l).isOwn = true → (h l').isOwn = true → μ l = some p → μ l' = some p' → p.b = some b → p'.b ≠ some b

/-- No block, or a block that is as it was: the thing lasts. -/
theorem ObOk.go {B : Nat} {I I' : Nat → Prop} {μ μ' : Mu} {w w' : World} {l : Nat} {o : Ob} (g : Go1 I I' μ μ' w w')
    (hk : ∀ p b, μ l = some p → p.b = some b → o.isOwn = true → w'.heap[b]? = w.heap[b]? ∧ ¬ I' b) (h : ObOk B I μ w l o) : ObOk B I' μ' w' l o := by
  cases o with
  | no => trivial
  | var cs own =>
    obtain ⟨p, b, vs, ty, h1, h2, h3, h4, h5, h6, h7, h8⟩ := h
    refine ⟨p, b, vs, ty, g.nam _ _ h1, h2, h3, ?_, h5, h6.go g, fun ho => ?_, fun ho => ⟨g.imp _ (h8 ho).1, (h8 ho).2.go g⟩⟩
    · cases own with
      | true => rw [(hk p b h1 h2 rfl).1]; exact h4
      | false => rw [g.blk _ (h8 rfl).1]; exact h4
    · exact (hk p b h1 h2 ho).2
  | row e sz xs own =>
    obtain ⟨p, cells, h1, h2, h3, h4, h5, h6, h7, h8, h9, h10⟩ := h
    refine ⟨p, cells, g.nam _ _ h1, h2, h3, h4, ?_, h6, h7, h8.go g, fun ho b hb => (hk p b h1 hb ho).2, fun ho b hb => g.imp _ (h10 ho b hb)⟩
    refine ⟨h5.1, ?_⟩
    rcases h5.2 with hn | ⟨gb, cap, cur, hv, hb, hg, rest⟩
    · exact .inl hn
    · refine .inr ⟨gb, cap, cur, hv, hb, ?_, rest⟩
      have hpb : p.b = some gb := by rw [h4, hv]; rfl
      cases own with
      | true => rw [(hk p gb h1 hpb rfl).1]; exact hg
      | false => rw [g.blk _ (h10 rfl gb hpb)]; exact hg
  | mp es =>
    obtain ⟨p, b, ens, clk, h1, h2, h3, h4, h5, h6⟩ := h
    refine ⟨p, b, ens, clk, g.nam _ _ h1, h2, h3, ?_, ⟨h5.1, fun j k d en a c => ⟨(h5.2 j k d en a c).1, (h5.2 j k d en a c).2.go g⟩⟩, (hk p b h1 h2 rfl).2⟩
    rw [(hk p b h1 h2 rfl).1]; exact h4

/-- A block that is owned is there. -/
theorem ObOk.lt {B : Nat} {I : Nat → Prop} {μ : Mu} {w : World} {l : Nat} {o : Ob} (h : ObOk B I μ w l o) {p : Pl} {b : Nat} (hp : μ l = some p) (hb : p.b = some b) (ho : o.isOwn = true) : b < w.heap.size ∧ ¬ I b ∧ B ≤ b := by
  cases o with
  | no => cases ho
  | var cs own =>
    obtain ⟨p', b', vs, ty, h1, h2, h3, h4, h5, h6, h7, h8⟩ := h
    rw [hp] at h1; obtain rfl := Option.some.inj h1; rw [hb] at h2; obtain rfl := Option.some.inj h2
    exact ⟨(Array.getElem?_eq_some_iff.1 h4).1, h7 ho, h3⟩
  | row e sz xs own =>
    obtain ⟨p', cells, h1, h2, h3, h4, h5, h6, h7, h8, h9, h10⟩ := h
    rw [hp] at h1; obtain rfl := Option.some.inj h1
    have := h5.lt b (by rw [← h4]; exact hb)
    exact ⟨this.2, h9 ho b hb, this.1⟩
  | mp es =>
    obtain ⟨p', b', ens, clk, h1, h2, h3, h4, h5, h6⟩ := h
    rw [hp] at h1; obtain rfl := Option.some.inj h1; rw [hb] at h2; obtain rfl := Option.some.inj h2
    exact ⟨(Array.getElem?_eq_some_iff.1 h4).1, h6, h3⟩

section
variable {B : Nat} {w0 w w' : World} {I I' : Nat → Prop} {μ μ' : Mu} {h : Hp}
/-- The world goes on, and no block of the own changes; the heap stays. -/
theorem Inv.go (hi : Inv B w0 I μ h w) (g : Go1 I I' μ μ' w w') (hb : Below B w w') (hl : ∀ b, I' b → b < w'.heap.size) (hnew : ∀ b, I' b → b < w.heap.size → I b)
    (hk : ∀ b, b < w.heap.size → w'.heap[b]? = w.heap[b]?) : Inv B w0 I' μ' h w' := by
  refine ⟨hi.below.trans hb, Nat.le_trans hi.hB hb.size, hl, fun l => (hi.ob l).go g fun p b hp hb ho => ?_, fun l l' p p' b hne ho ho' hp hp' hb => ?_⟩
  · obtain ⟨h1, h2, _⟩ := (hi.ob l).lt hp hb ho
    exact ⟨hk b h1, fun hI => h2 (hnew b hI h1)⟩
  · have q : ∀ l p, (h l).isOwn = true → μ' l = some p → μ l = some p := by
      intro l p ho hp
      have : ∃ q, μ l = some q := by
        have := hi.ob l
        revert this ho
        cases h l with
        | no => intro ho; cases ho
        | var cs own => rintro _ ⟨p, _, _, _, h1, _⟩; exact ⟨p, h1⟩
        | row e sz xs own => rintro _ ⟨p, _, h1, _⟩; exact ⟨p, h1⟩
        | mp es => rintro _ ⟨p, _, _, _, h1, _⟩; exact ⟨p, h1⟩
      obtain ⟨q, hq⟩ := this
      have := g.nam l q hq
      rw [hp] at this
      rw [hq, this]
    exact hi.dis l l' p p' b hne ho ho' (q l p ho hp) (q l' p' ho' hp') hb
/-- Draws turn no block. -/
theorem Inv.same (hi : Inv B w0 I μ h w) (hh : w'.heap = w.heap) (ho : w'.os = w.os) (ht : w'.tape = w.tape) (hu : w'.output = w.output) : Inv B w0 I μ h w' ∧ Go1 I I μ μ w w' := by
  have g : Go1 I I μ μ w w' := ⟨fun _ h => h, fun b _ => by rw [hh], fun _ _ h => h⟩
  exact ⟨hi.go g ⟨ho, ht, hu, by rw [hh]; exact Nat.le_refl _, fun b _ => by rw [hh]⟩ (fun b hb => by rw [hh]; exact hi.lt b hb) (fun b hb _ => hb) (fun b _ => by rw [hh]), g⟩

/-- One name is given (anew): block l becomes o. What else is owned, and what nobody writes, is as it was. -/
theorem Inv.put (hi : Inv B w0 I μ h w) (g : Go1 I I' μ μ' w w') (hb : Below B w w') (hl : ∀ b, I' b → b < w'.heap.size) {l : Nat} {o : Ob} (h' : Hp)
    (hh : ∀ j, j ≠ l → h' j = h j ∨ h' j = .no) (hho : h' l = o) (hol : ObOk B I' μ' w' l o)
    (hk : ∀ j p b, j ≠ l → h' j = h j → (h j).isOwn = true → μ j = some p → p.b = some b → w'.heap[b]? = w.heap[b]? ∧ ¬ I' b ∧ (o.isOwn = true → ∀ p', μ' l = some p' → p'.b ≠ some b)) : Inv B w0 I' μ' h' w' := by
  have q : ∀ l p, (h l).isOwn = true → μ' l = some p → μ l = some p := by
    intro l p ho hp
    have : ∃ q, μ l = some q := by
      have := hi.ob l
      revert this ho
      cases h l with
      | no => intro ho; cases ho
      | var cs own => rintro _ ⟨p, _, _, _, h1, _⟩; exact ⟨p, h1⟩
      | row e sz xs own => rintro _ ⟨p, _, h1, _⟩; exact ⟨p, h1⟩
      | mp es => rintro _ ⟨p, _, _, _, h1, _⟩; exact ⟨p, h1⟩
    obtain ⟨q, hq⟩ := this
    have := g.nam l q hq
    rw [hp] at this
    rw [hq, this]
  refine ⟨hi.below.trans hb, Nat.le_trans hi.hB hb.size, hl, fun j => ?_, fun j j' p p' b hne ho ho' hp hp' hpb => ?_⟩
  · by_cases hj : j = l
    · subst hj; rw [hho]; exact hol
    · rcases hh j hj with hj2 | hj2
      · rw [hj2]
        exact (hi.ob j).go g fun p b hp hb2 ho => ⟨(hk j p b hj hj2 ho hp hb2).1, (hk j p b hj hj2 ho hp hb2).2.1⟩
      · rw [hj2]; trivial
  · have old : ∀ j, j ≠ l → (h' j).isOwn = true → h' j = h j ∧ (h j).isOwn = true := by
      intro j hj ho
      rcases hh j hj with hj2 | hj2
      · exact ⟨hj2, by rw [← hj2]; exact ho⟩
      · rw [hj2] at ho; cases ho
    by_cases hj : j = l
    · subst hj
      have hj' : j' ≠ j := fun e => hne e.symm
      obtain ⟨h1, h2⟩ := old j' hj' ho'
      intro hpb'
      exact (hk j' p' b hj' h1 h2 (q j' p' h2 hp') hpb').2.2 (by rw [← hho]; exact ho) p hp hpb
    · obtain ⟨h1, h2⟩ := old j hj ho
      by_cases hj' : j' = l
      · subst hj'
        exact (hk j p b hj h1 h2 (q j p h2 hp) hpb).2.2 (by rw [← hho]; exact ho') p' hp'
      · obtain ⟨h1', h2'⟩ := old j' hj' ho'
        exact hi.dis j j' p p' b hne h2 h2' (q j p h2 hp) (q j' p' h2' hp') hpb
end
end Go.Proofs.Ytbpccdengeakgaa.AE
