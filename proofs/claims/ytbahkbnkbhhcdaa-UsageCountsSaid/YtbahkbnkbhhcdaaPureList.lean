/-
  Plain facts on lists of counts: what the map of Merge holds, sorted by name, is what the document's insertions give. No program in sight.
-/
import Derived.Test.YtbahkbnkbhhcdaaPAllx3
namespace Go.Proofs.Ytbahkbnkbhhcdaa.Pure
open Go.RowKit Go.Proofs.Ytbahkbnkbhhcdaa.PAll Go.Proofs.YtbahkbnkbhhcdaaW.PrintWords Go.Proofs.YtbahkbnkbhhcdaaW.PrintLast

/-- a count that is right -/
def vC (x : S34) : Prop := 1 ≤ x.f0.size ∧ x.f0.size ≤ 300 ∧ 1 ≤ x.f1 ∧ x.f1 ≤ 1000000 ∧ 0 ≤ x.f2 ∧ x.f2 ≤ 1000000
def ltC (x y : S34) : Prop := x.f0.data.toList < y.f0.data.toList
structure RgC (l : List S34) : Prop where
  val : ∀ x ∈ l, vC x
  asc : l.Pairwise ltC
def bothC (x c : S34) : S34 := ⟨x.f0, min (x.f1 + c.f1) 1000000, max x.f2 c.f2⟩
def putR : List S34 → S34 → List S34
  | [], c => [c]
  | x :: r, c => if x.f0.data.toList < c.f0.data.toList then x :: putR r c else if x.f0 = c.f0 then bothC x c :: r else c :: x :: r
def mergeR (u v : List S34) : List S34 := v.foldl putR u
theorem ltC_ne {x y : S34} (h : ltC x y) : x.f0 ≠ y.f0 := fun e => by unfold ltC at h; rw [e] at h; exact List.lt_irrefl _ h
theorem ltC_trans {x y z : S34} (h : ltC x y) (k : ltC y z) : ltC x z := List.lt_trans h k
theorem ltC_tri {x y : S34} (h1 : ¬ x.f0.data.toList < y.f0.data.toList) (h2 : x.f0 ≠ y.f0) : ltC y x := by
  unfold ltC
  rcases Decidable.em (y.f0.data.toList < x.f0.data.toList) with h | h
  · exact h
  · exact absurd (ba_dataC (List.le_antisymm (List.not_lt.1 h) (List.not_lt.1 h1))) h2
theorem RgC.one {l : List S34} (h : RgC l) : OneM l := h.asc.imp ltC_ne
theorem RgC.nil : RgC [] := ⟨fun _ h => (by cases h), .nil⟩
theorem bothC_val {x c : S34} (h : vC x) (k : vC c) : vC (bothC x c) := by
  unfold vC bothC at *
  simp only
  omega
theorem putR_mem {c : S34} : ∀ {l : List S34} {z : S34}, z ∈ putR l c → z = c ∨ z ∈ l ∨ ∃ x ∈ l, x.f0 = c.f0 ∧ z = bothC x c
  | [], z, h => by rw [putR] at h; exact .inl (List.mem_singleton.1 h)
  | x :: r, z, h => by
    rw [putR] at h
    split at h
    · rcases List.mem_cons.1 h with rfl | h
      · exact .inr (.inl List.mem_cons_self)
      · rcases putR_mem h with h | h | ⟨y, hy, h1, h2⟩
        · exact .inl h
        · exact .inr (.inl (List.mem_cons_of_mem _ h))
        · exact .inr (.inr ⟨y, List.mem_cons_of_mem _ hy, h1, h2⟩)
    · split at h
      · rename_i e
        rcases List.mem_cons.1 h with rfl | h
        · exact .inr (.inr ⟨x, List.mem_cons_self, e, rfl⟩)
        · exact .inr (.inl (List.mem_cons_of_mem _ h))
      · rcases List.mem_cons.1 h with rfl | h
        · exact .inl rfl
        · exact .inr (.inl h)
theorem putR_val {l : List S34} {c : S34} (h : ∀ x ∈ l, vC x) (k : vC c) : ∀ x ∈ putR l c, vC x := by
  intro z hz
  rcases putR_mem hz with rfl | h1 | ⟨x, hx, _, rfl⟩
  · exact k
  · exact h z h1
  · exact bothC_val (h x hx) k
theorem putR_asc (c : S34) : ∀ {l : List S34}, l.Pairwise ltC → (putR l c).Pairwise ltC
  | [], _ => List.pairwise_singleton _ _
  | x :: r, h => by
    obtain ⟨h1, h2⟩ := List.pairwise_cons.1 h
    rw [putR]
    split
    · rename_i hlt
      refine List.pairwise_cons.2 ⟨fun z hz => ?_, putR_asc c h2⟩
      rcases putR_mem hz with rfl | hz | ⟨y, hy, _, rfl⟩
      · exact hlt
      · exact h1 z hz
      · exact h1 y hy
    · split
      · exact List.pairwise_cons.2 ⟨fun z hz => h1 z hz, h2⟩
      · rename_i hlt hne
        have := ltC_tri hlt hne
        exact List.pairwise_cons.2 ⟨fun z hz => by
          rcases List.mem_cons.1 hz with rfl | hz
          · exact this
          · exact ltC_trans this (h1 z hz), h⟩
theorem putR_rg {l : List S34} {c : S34} (h : RgC l) (k : vC c) : RgC (putR l c) := ⟨putR_val h.val k, putR_asc c h.asc⟩
theorem hasM_putR (s : ByteArray) (c : S34) : ∀ l : List S34, hasM s (putR l c) = (decide (s = c.f0) || hasM s l)
  | [] => by
    unfold hasM putR
    by_cases h : s = c.f0
    · simp [h]
    · have h' : ¬ c.f0 = s := fun e => h e.symm
      simp [h, h']
  | x :: r => by
    have ih := hasM_putR s c r
    unfold hasM at ih ⊢
    rw [putR]
    split
    · rw [List.any_cons, List.any_cons, ih]
      cases decide (x.f0 = s) <;> cases decide (s = c.f0) <;> rfl
    · split
      · rename_i e
        rw [List.any_cons, List.any_cons]
        by_cases h : s = c.f0
        · simp [bothC, e, h]
        · have h' : ¬ x.f0 = s := fun e' => h (e'.symm.trans e)
          simp [bothC, h, h']
      · rw [List.any_cons]
        by_cases h : s = c.f0
        · simp [h]
        · have h' : ¬ c.f0 = s := fun e => h e.symm
          simp [h, h']
theorem getM_not {s : ByteArray} : ∀ {l : List S34}, hasM s l = false → getM s l = z34
  | [], _ => rfl
  | x :: r, h => by
    unfold hasM at h
    rw [List.any_cons, Bool.or_eq_false_iff] at h
    rw [getM, if_neg (of_decide_eq_false h.1)]
    exact getM_not h.2
theorem hasM_low {s : ByteArray} {l : List S34} (h : ∀ x ∈ l, s.data.toList < x.f0.data.toList) : hasM s l = false := by
  unfold hasM
  rw [List.any_eq_false]
  intro x hx
  have := h x hx
  rw [decide_eq_true_eq]
  intro e
  rw [e] at this
  exact List.lt_irrefl _ this
theorem getM_putR (s : ByteArray) (c : S34) : ∀ {l : List S34}, l.Pairwise ltC → getM s (putR l c) = if s = c.f0 then (if hasM s l = true then bothC (getM s l) c else c) else getM s l
  | [], _ => by
    rw [putR]
    by_cases h : s = c.f0
    · rw [if_pos h]; show (if c.f0 = s then c else z34) = _; rw [if_pos h.symm]; rfl
    · rw [if_neg h]; show (if c.f0 = s then c else z34) = z34; rw [if_neg fun e => h e.symm]
  | x :: r, hp => by
    obtain ⟨h1, h2⟩ := List.pairwise_cons.1 hp
    have ih := getM_putR s c h2
    have hc : hasM s (x :: r) = (decide (x.f0 = s) || hasM s r) := rfl
    rw [putR]
    split
    · rename_i hlt
      rw [getM, ih, hc, getM]
      by_cases hx : x.f0 = s
      · rw [if_pos hx, if_pos hx]
        by_cases h : s = c.f0
        · rw [hx, h] at hlt; exact absurd hlt (List.lt_irrefl _)
        · rw [if_neg h]
      · rw [if_neg hx, if_neg hx, decide_eq_false hx, Bool.false_or]
    · rename_i hlt
      split
      · rename_i e
        rw [getM, getM, hc]
        by_cases h : s = c.f0
        · have hx : x.f0 = s := e.trans h.symm
          rw [if_pos (show (bothC x c).f0 = s from hx), if_pos h, if_pos hx, decide_eq_true hx, Bool.true_or, if_pos rfl]
        · have hx : ¬ x.f0 = s := fun e' => h (e'.symm.trans e)
          rw [if_neg (show ¬ (bothC x c).f0 = s from hx), if_neg h, if_neg hx]
      · rename_i hne
        have ht := ltC_tri hlt hne
        rw [getM]
        by_cases h : s = c.f0
        · have : hasM s (x :: r) = false := hasM_low fun y hy => by
            rw [h]
            rcases List.mem_cons.1 hy with rfl | hy
            · exact ht
            · exact ltC_trans ht (h1 y hy)
          rw [if_pos h.symm, if_pos h, this, if_neg (by simp)]
        · rw [if_neg fun e => h e.symm, if_neg h]
theorem asc_key {l : List S34} (h : l.Pairwise ltC) : l.Pairwise fun x y => keyC x y = true :=
  h.imp fun h => decide_eq_true (List.le_of_lt h)
/-- two lists of names that ascend, which say the same of every name, are one -/
theorem same_ext {l r : List S34} (h : OneM l) (k : OneM r) (hh : ∀ s, hasM s l = hasM s r) (hg : ∀ s, hasM s l = true → getM s l = getM s r) : l.Perm r := by
  have side : ∀ {l r : List S34}, OneM l → (∀ s, hasM s l = hasM s r) → (∀ s, hasM s l = true → getM s l = getM s r) → ∀ x ∈ l, x ∈ r := by
    intro l r h hh hg x hx
    have e := hasM_mem hx
    have := (getM_name (hh _ ▸ e)).1
    rw [← hg _ e, getM_of h hx] at this
    exact this
  exact (List.perm_ext_iff_of_nodup (oneM_nodup h) (oneM_nodup k)).2 fun x => ⟨side h hh hg x, side k (fun s => (hh s).symm) (fun s e => (hg s ((hh s).trans e)).symm) x⟩
theorem asc_ext {l r : List S34} (h : l.Pairwise ltC) (k : r.Pairwise ltC) (hh : ∀ s, hasM s l = hasM s r) (hg : ∀ s, hasM s l = true → getM s l = getM s r) : l = r := by
  have h1 : OneM l := h.imp ltC_ne
  have k1 : OneM r := k.imp ltC_ne
  rw [sorted_name k1 (same_ext h1 k1 hh hg) (asc_key h), ← sorted_name k1 (List.Perm.refl r) (asc_key k)]
structure RelM (L R : List S34) : Prop where
  one : OneM L
  rg : RgC R
  has : ∀ s, hasM s L = hasM s R
  get : ∀ s, hasM s L = true → getM s L = getM s R
theorem mrg_z {c : S34} (h : vC c) : mrgC z34 c = c := by
  obtain ⟨_, _, h1, h2, h3, _⟩ := h
  unfold mrgC
  have e1 : min (wrap64 (z34.f1 + c.f1)) 1000000 = c.f1 := by show min (wrap64 (0 + c.f1)) 1000000 = c.f1; unfold wrap64; omega
  have e2 : max z34.f2 c.f2 = c.f2 := by show max 0 c.f2 = c.f2; omega
  rw [e1, e2]
theorem mrg_both {x c : S34} (h : vC x) (k : vC c) (e : x.f0 = c.f0) : mrgC x c = bothC x c := by
  obtain ⟨_, _, h1, h2, h3, _⟩ := h
  obtain ⟨_, _, k1, k2, k3, _⟩ := k
  unfold mrgC bothC
  have e1 : wrap64 (x.f1 + c.f1) = x.f1 + c.f1 := by unfold wrap64; omega
  rw [e1, e]
theorem RelM.step {L R : List S34} (h : RelM L R) {c : S34} (k : vC c) : RelM (putM L c) (putR R c) := by
  refine ⟨putM_one c h.one, putR_rg h.rg k, fun s => by rw [hasM_put, hasM_putR, h.has], fun s hs => ?_⟩
  rw [getM_put, getM_putR s c h.rg.asc]
  by_cases e : s = c.f0
  · rw [if_pos e, if_pos e]
    cases hb : hasM s R
    · rw [if_neg (by simp), getM_not ((h.has s).trans hb)]
      exact mrg_z k
    · have hb' := (h.has s).trans hb
      obtain ⟨hm, hn⟩ := getM_name hb
      rw [if_pos rfl, h.get s hb']
      exact mrg_both (h.rg.val _ hm) k (hn.trans e)
  · rw [if_neg e, if_neg e]
    refine h.get s ?_
    rw [hasM_put, decide_eq_false e, Bool.false_or] at hs
    exact hs
theorem RelM.fold {v : List S34} : ∀ {L R : List S34}, RelM L R → (∀ x ∈ v, vC x) → RelM (v.foldl putM L) (v.foldl putR R) := by
  induction v with
  | nil => intro L R h _; exact h
  | cons c v ih => intro L R h hv; exact ih (h.step (hv c List.mem_cons_self)) (fun x hx => hv x (List.mem_cons_of_mem _ hx))
theorem putR_end {c : S34} : ∀ {l : List S34}, (∀ x ∈ l, ltC x c) → putR l c = l ++ [c]
  | [], _ => rfl
  | x :: r, h => by
    rw [putR, if_pos (show x.f0.data.toList < c.f0.data.toList from h x List.mem_cons_self), putR_end (fun y hy => h y (List.mem_cons_of_mem _ hy))]
    rfl
theorem mergeR_app : ∀ {v u : List S34}, (u ++ v).Pairwise ltC → mergeR u v = u ++ v
  | [], u, _ => by simp [mergeR]
  | c :: v, u, h => by
    have h' : (u ++ [c] ++ v).Pairwise ltC := by simpa using h
    have hu : ∀ x ∈ u, ltC x c := fun x hx => (List.pairwise_append.1 h).2.2 x hx c List.mem_cons_self
    show mergeR (putR u c) v = _
    rw [putR_end hu, mergeR_app h']
    simp
theorem mergeR_nil {u : List S34} (h : RgC u) : mergeR [] u = u := by
  have := mergeR_app (u := []) (v := u) h.asc
  simpa using this
/-- Merge is the document's insertions -/
theorem merge_eq {u v : List S34} (hu : RgC u) (hv : ∀ x ∈ v, vC x) : sortM (mergeM (u ++ v)) = mergeR u v := by
  have h0 : RelM [] [] := ⟨.nil, .nil, fun _ => rfl, fun s h => by cases h⟩
  have h1 : RelM (mergeM (u ++ v)) (mergeR u v) := by
    have := h0.fold (v := u ++ v) (fun x hx => (List.mem_append.1 hx).elim (hu.val x) (hv x))
    have e : (u ++ v).foldl putR [] = mergeR u v := by
      rw [List.foldl_append]
      have := mergeR_nil hu
      unfold mergeR at this ⊢
      rw [this]
    rw [e] at this
    exact this
  exact (sorted_name h1.one (same_ext h1.rg.one h1.one (fun s => (h1.has s).symm) (fun s e => (h1.get s ((h1.has s).trans e)).symm)) (asc_key h1.rg.asc)).symm
theorem mergeR_rg {u : List S34} (hu : RgC u) : ∀ {v : List S34}, (∀ x ∈ v, vC x) → RgC (mergeR u v) := by
  intro v
  unfold mergeR
  induction v generalizing u with
  | nil => intro _; exact hu
  | cons c v ih => intro hv; exact ih (putR_rg hu (hv c List.mem_cons_self)) (fun x hx => hv x (List.mem_cons_of_mem _ hx))
end Go.Proofs.Ytbahkbnkbhhcdaa.Pure
