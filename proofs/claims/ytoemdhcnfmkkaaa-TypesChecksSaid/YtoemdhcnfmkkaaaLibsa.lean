/-
  types: supertypes are closed.
-/
import Derived.Test.YtoemdhcnfmkkaaaLibm
set_option linter.unusedVariables false
set_option linter.unusedSimpArgs false
set_option maxHeartbeats 8000000
set_option maxRecDepth 100000
namespace Go.Proofs.Ytoemdhcnfmkkaaa.AE
open Go
theorem push_pre (t : ByteArray) (out : List ByteArray) (s : ByteArray) : out <+: push t out s := by
  unfold push
  split
  · exact List.prefix_refl _
  · exact List.prefix_append _ _
theorem addAll_pre (t : ByteArray) : ∀ (ks out : List ByteArray), out <+: addAll t out ks
  | [], out => List.prefix_refl _
  | k :: ks, out => (push_pre t out k).trans (addAll_pre t ks (push t out k))
theorem push_in {t : ByteArray} {out : List ByteArray} {s : ByteArray} (h : s ≠ t) : s ∈ push t out s := by
  unfold push
  split
  · rename_i hs
    simp only [sn, Bool.or_eq_true, decide_eq_true_eq, has_mem] at hs
    exact hs.resolve_left h
  · simp
theorem addAll_in {t : ByteArray} : ∀ {ks out : List ByteArray} {s : ByteArray}, s ∈ ks → s ≠ t → s ∈ addAll t out ks
  | k :: ks, out, s, hs, ht => by
    rcases List.mem_cons.1 hs with rfl | hs
    · exact (addAll_pre t ks (push t out s)).subset (push_in ht)
    · exact addAll_in (ks := ks) hs ht
theorem push_sub {t : ByteArray} {out : List ByteArray} {s x : ByteArray} (h : x ∈ push t out s) : x ∈ out ∨ x = s := by
  unfold push at h
  split at h
  · exact .inl h
  · simpa using h
theorem addAll_sub {t : ByteArray} : ∀ {ks out : List ByteArray} {x : ByteArray}, x ∈ addAll t out ks → x ∈ out ∨ x ∈ ks
  | [], out, x, h => .inl h
  | k :: ks, out, x, h => by
    rcases addAll_sub (ks := ks) h with h | h
    · rcases push_sub h with h | rfl
      · exact .inl h
      · exact .inr (by simp)
    · exact .inr (by simp [h])
theorem bs_pre1 (l : List Dc) (t : ByteArray) (i : Nat) : bs l t i <+: bs l t (i + 1) := by
  cases h : (bs l t i)[i]? with
  | none => rw [bs, h]; exact List.prefix_refl _
  | some s => rw [bs_next h]; exact addAll_pre _ _ _
theorem bs_pre (l : List Dc) (t : ByteArray) {i : Nat} : ∀ j, i ≤ j → bs l t i <+: bs l t j := by
  intro j hj
  induction hj with
  | refl => exact List.prefix_refl _
  | step hj ih => exact ih.trans (bs_pre1 l t _)
/-- In a's reach: a, or one of its supertypes. -/
def Rch (l : List Dc) (a x : ByteArray) : Prop := x = a ∨ x ∈ supers l a
theorem rch_iff (l : List Dc) (a x : ByteArray) : sbt l a x = true ↔ Rch l a x := by
  simp only [sbt, Bool.or_eq_true, decide_eq_true_eq, has_mem, Rch]
  exact or_congr_left eq_comm
theorem rch_kids {l : List Dc} (hs : small l = true) {a s x : ByteArray} (h : Rch l a s) (hx : x ∈ kids l s) : Rch l a x := by
  by_cases hxa : x = a
  · exact .inl hxa
  refine .inr ?_
  rcases h with rfl | h
  · have h0 : x ∈ bs l s 0 := addAll_in hx hxa
    exact (bs_pre l s 1200 (Nat.zero_le _)).subset h0
  · have hl := good_len hs (supers_good l a)
    obtain ⟨i, hi⟩ := List.getElem?_of_mem h
    have hil := (List.getElem?_eq_some_iff.1 hi).1
    have hb : i < (bs l a i).length := by
      rcases Nat.lt_or_ge i (bs l a i).length with h1 | h1
      · exact h1
      · rw [supers_at (by omega) h1] at hil; omega
    have he : (bs l a i)[i]? = some s := by
      rw [← hi]
      obtain ⟨r, hr⟩ := bs_pre l a (i := i) 1200 (by omega)
      unfold supers
      rw [← hr, List.getElem?_append_left hb]
    have h2 : x ∈ bs l a (i + 1) := by rw [bs_next he]; exact addAll_in hx hxa
    exact (bs_pre l a 1200 (by omega)).subset h2
theorem bs_rch {l : List Dc} (hs : small l = true) {a b : ByteArray} (h : Rch l a b) : ∀ i, ∀ x ∈ bs l b i, Rch l a x
  | 0 => fun x hx => by
    rcases addAll_sub hx with hx | hx
    · cases hx
    · exact rch_kids hs h hx
  | i + 1 => fun x hx => by
    cases he : (bs l b i)[i]? with
    | none =>
      rw [bs, he] at hx
      exact bs_rch hs h i x hx
    | some s =>
      rw [bs_next he] at hx
      rcases addAll_sub hx with hx | hx
      · exact bs_rch hs h i x hx
      · exact rch_kids hs (bs_rch hs h i s (List.mem_of_getElem? he)) hx
theorem rch_trans {l : List Dc} (hs : small l = true) {a b c : ByteArray} (h : Rch l a b) (h' : Rch l b c) : Rch l a c := by
  rcases h' with rfl | h'
  · exact h
  · exact bs_rch hs h 1200 c h'
theorem sbt_trans {l : List Dc} (hs : small l = true) {a b c : ByteArray} (h : sbt l a b = true) (h' : sbt l b c = true) : sbt l a c = true := (rch_iff l a c).2 (rch_trans hs ((rch_iff l a b).1 h) ((rch_iff l b c).1 h'))
theorem sbt_refl (l : List Dc) (a : ByteArray) : sbt l a a = true := (rch_iff l a a).2 (.inl rfl)
theorem fits_trans {l : List Dc} (hs : small l = true) {a b c : ByteArray} (hb : b ≠ ByteArray.mk #[110, 117, 108, 108]) (h : fits l a b = true) (h' : fits l b c = true) : fits l a c = true := by
  unfold fits at h' 
  simp only [Bool.or_eq_true, Bool.and_eq_true, decide_eq_true_eq] at h'
  rcases h' with ⟨⟨rfl, _⟩, _⟩ | ⟨hc, h' | ⟨hnb, hbc⟩⟩
  · exact h
  · exact absurd h' hb
  · unfold fits at h
    simp only [Bool.or_eq_true, Bool.and_eq_true, decide_eq_true_eq] at h
    rcases h with ⟨⟨rfl, _⟩, _⟩ | ⟨_, h | ⟨hna, hab⟩⟩
    · unfold fits; simp [hc, hnb, hbc]
    · unfold fits; simp [hc, h]
    · unfold fits; simp [hc, hna, sbt_trans hs hab hbc]
end Go.Proofs.Ytoemdhcnfmkkaaa.AE
