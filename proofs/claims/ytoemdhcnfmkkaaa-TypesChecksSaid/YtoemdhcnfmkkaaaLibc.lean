/-
  types: all supertypes, in plain words.
-/
import Derived.Test.YtoemdhcnfmkkaaaLibb
set_option linter.unusedVariables false
set_option linter.unusedSimpArgs false
set_option maxHeartbeats 4000000
namespace Go.Proofs.Ytoemdhcnfmkkaaa.AE
open Go
theorem babeq (a b : ByteArray) : (a == b) = decide (a = b) := by
  cases a with | mk a => cases b with | mk b =>
  show (a == b) = _
  by_cases h : a = b
  · subst h; simp
  · rw [beq_false_of_ne h, decide_eq_false (by simpa using h)]
theorem mfind_mset (s k : ByteArray) (v : D) : ∀ (es : List (ByteArray × D)), mfind s (mset k v es) = if s = k then some v else mfind s es
  | [] => by simp only [mset, mfind, babeq, decide_eq_true_eq]
  | (a, d) :: r => by
    simp only [mset, babeq, decide_eq_true_eq]
    by_cases h : k = a
    · subst h
      rw [if_pos rfl]
      simp only [mfind, babeq, decide_eq_true_eq]
      split <;> rfl
    · rw [if_neg h]
      simp only [mfind, babeq, decide_eq_true_eq]
      rw [mfind_mset s k v r]
      by_cases h1 : s = a
      · rw [if_pos h1, if_neg (fun he => h (he.symm.trans h1)), if_pos h1]
      · rw [if_neg h1, if_neg h1]
theorem has_mem {l : List ByteArray} {t : ByteArray} : has l t = true ↔ t ∈ l := by
  simp [has]
/-- Seen: the name itself, or listed. -/
def sn (t : ByteArray) (out : List ByteArray) (s : ByteArray) : Bool := decide (s = t) || has out s
def push (t : ByteArray) (out : List ByteArray) (s : ByteArray) : List ByteArray := if sn t out s then out else out ++ [s]
def addAll (t : ByteArray) (out ks : List ByteArray) : List ByteArray := ks.foldl (push t) out
def kids (l : List Dc) (s : ByteArray) : List ByteArray := match named l s with
  | some d => d.supers
  | none => []
def bs (l : List Dc) (t : ByteArray) : Nat → List ByteArray
  | 0 => addAll t [] (kids l t)
  | i + 1 => match (bs l t i)[i]? with
    | some s => addAll t (bs l t i) (kids l s)
    | none => bs l t i
def supers (l : List Dc) (t : ByteArray) : List ByteArray := bs l t 1200
theorem addAll_take {t : ByteArray} {out ks : List ByteArray} {j : Nat} {s : ByteArray} (h : ks[j]? = some s) : addAll t out (ks.take (j + 1)) = push t (addAll t out (ks.take j)) s := by
  unfold addAll
  rw [List.take_add_one, h]
  simp [List.foldl_append]
theorem sn_push (t : ByteArray) (out : List ByteArray) (s x : ByteArray) : sn t (push t out s) x = (sn t out x || decide (x = s)) := by
  unfold push
  by_cases hs : sn t out s = true
  · rw [if_pos hs]
    by_cases hx : x = s
    · subst hx; rw [hs]; simp
    · simp [hx]
  · rw [if_neg hs]
    simp only [sn, has, List.any_append, List.any_cons, List.any_nil, Bool.or_false, Bool.or_assoc]
    congr 2
    rw [decide_eq_decide]
    exact eq_comm
/-- What all of the lists hold. -/
def pool (l : List Dc) : List ByteArray := l.flatMap (·.supers)
theorem find_mem {l : List Dc} {t : ByteArray} {d : Dc} (h : find l t = some d) : d ∈ l := List.mem_of_find?_eq_some h
theorem named_mem {l : List Dc} {t : ByteArray} {d : Dc} (h : named l t = some d) : d ∈ l := by
  unfold named at h
  exact find_mem (Option.eq_some_of_filter_eq_some h)
theorem kids_pool {l : List Dc} {t x : ByteArray} (h : x ∈ kids l t) : x ∈ pool l := by
  unfold kids at h
  cases hn : named l t with
  | none => rw [hn] at h; cases h
  | some d => rw [hn] at h; exact List.mem_flatMap.2 ⟨d, named_mem hn, h⟩
def Good (l : List Dc) (t : ByteArray) (out : List ByteArray) : Prop := out.Nodup ∧ (∀ x ∈ out, x ∈ pool l) ∧ t ∉ out
theorem push_good {l : List Dc} {t s : ByteArray} {out : List ByteArray} (h : Good l t out) (hs : s ∈ pool l) : Good l t (push t out s) := by
  unfold push
  split
  · exact h
  · rename_i hn
    simp only [sn, Bool.or_eq_true, decide_eq_true_eq, not_or, has_mem] at hn
    refine ⟨?_, ?_, ?_⟩
    · rw [List.nodup_append]
      exact ⟨h.1, by simp, fun a ha b hb he => by simp at hb; subst hb; subst he; exact hn.2 ha⟩
    · intro x hx
      rcases List.mem_append.1 hx with hx | hx
      · exact h.2.1 x hx
      · simp at hx; subst hx; exact hs
    · intro ht
      rcases List.mem_append.1 ht with ht | ht
      · exact h.2.2 ht
      · simp at ht; exact hn.1 ht.symm
theorem addAll_good {l : List Dc} {t : ByteArray} : ∀ {ks out : List ByteArray}, Good l t out → (∀ x ∈ ks, x ∈ pool l) → Good l t (addAll t out ks)
  | [], out, h, _ => h
  | k :: ks, out, h, hk => addAll_good (ks := ks) (push_good h (hk k (by simp))) (fun x hx => hk x (by simp [hx]))
theorem bs_good (l : List Dc) (t : ByteArray) : ∀ i, Good l t (bs l t i)
  | 0 => addAll_good ⟨by simp, by simp, by simp⟩ (fun x hx => kids_pool hx)
  | i + 1 => by
    unfold bs
    cases h : (bs l t i)[i]? with
    | none => exact bs_good l t i
    | some s => exact addAll_good (bs_good l t i) (fun x hx => kids_pool hx)
theorem small_len {l : List Dc} (h : small l = true) : l.length ≤ 60 ∧ ∀ d ∈ l, d.supers.length ≤ 20 := by
  simpa [small] using h
theorem pool_len : ∀ {l : List Dc}, (∀ d ∈ l, d.supers.length ≤ 20) → (pool l).length ≤ 20 * l.length
  | [], _ => by simp [pool]
  | d :: r, h => by
    have h1 := h d (by simp)
    have h2 := pool_len (l := r) (fun x hx => h x (by simp [hx]))
    simp only [pool, List.flatMap_cons, List.length_append, List.length_cons] at h2 ⊢
    omega
theorem good_len {l : List Dc} {t : ByteArray} {out : List ByteArray} (hs : small l = true) (h : Good l t out) : out.length ≤ 1200 := by
  have h1 := h.1.length_le_of_subset h.2.1
  have h2 := small_len hs
  have h3 := pool_len h2.2
  omega
theorem bs_end {l : List Dc} {t : ByteArray} {i : Nat} (h : (bs l t i).length ≤ i) : ∀ j, i ≤ j → bs l t j = bs l t i := by
  intro j hj
  induction hj with
  | refl => rfl
  | step hj ih =>
    rename_i m
    have e : bs l t (m + 1) = (match (bs l t m)[m]? with
      | some s => addAll t (bs l t m) (kids l s)
      | none => bs l t m) := rfl
    rw [e, ih, List.getElem?_eq_none (by have : i ≤ m := hj; omega)]
theorem bs_next {l : List Dc} {t : ByteArray} {i : Nat} {s : ByteArray} (h : (bs l t i)[i]? = some s) : bs l t (i + 1) = addAll t (bs l t i) (kids l s) := by
  rw [bs, h]
theorem supers_at {l : List Dc} {t : ByteArray} {i : Nat} (hi : i ≤ 1200) (h : (bs l t i).length ≤ i) : supers l t = bs l t i := bs_end h 1200 hi
theorem supers_no {l : List Dc} {t : ByteArray} (h : named l t = none) : supers l t = [] := by
  have h0 : bs l t 0 = [] := by simp [bs, kids, h, addAll]
  rw [supers_at (i := 0) (by omega) (by rw [h0]; simp), h0]
theorem supers_good (l : List Dc) (t : ByteArray) : Good l t (supers l t) := bs_good l t 1200
/-- A list of strings made by appends. -/
def rd (l : List ByteArray) : D := if l.isEmpty then .nls else .own 9 1 (sl l)
def OutV (h : Hp) (b k : Nat) (out : List ByteArray) (ov : D) : Prop := (out = [] ∧ ov = .nls) ∨ ∃ o, ov = .osl o ∧ b ≤ o ∧ o < k ∧ h o = .row 9 1 (sl out) true ∧ out ≠ []
theorem sl_app (l : List ByteArray) (s : ByteArray) : sl l ++ [[.str s]] = sl (l ++ [s]) := by simp [sl]
theorem sl_one (s : ByteArray) : [[D.str s]] = sl [s] := rfl
theorem sl_all (l : List ByteArray) : ((sl l).all fun y => decide (y.length = 1)) = true := by simp [sl]
end Go.Proofs.Ytoemdhcnfmkkaaa.AE
