/-
  Facts that walks of every seat use: bounds, lists, rows made by appends or in place. No program in sight.
-/
import Derived.Test.YtbpccdengeakgaaRules
set_option linter.unusedVariables false
set_option linter.unusedSimpArgs false
namespace Go.Proofs.Ytbpccdengeakgaa.AE
open Go
theorem nextC {j n : Nat} (h : j ≤ n) : (j < n ∧ decide ((j : Int) < (n : Int)) = true) ∨ (j = n ∧ decide ((j : Int) < (n : Int)) = false) := by
  rcases Nat.lt_or_ge j n with h1 | h1
  · exact .inl ⟨h1, by simp; omega⟩
  · exact .inr ⟨by omega, by simp; omega⟩
theorem at_lt {α : Type} {l : List α} {j : Nat} (h : j < l.length) : ∃ x, l[j]? = some x := ⟨l[j], List.getElem?_eq_getElem h⟩
theorem before_succ {α : Type} {l : List α} {j : Nat} {x : α} {p : α → Prop} (hx : l[j]? = some x) (hp : p x) (hb : ∀ i y, i < j → l[i]? = some y → p y) : ∀ i y, i < j + 1 → l[i]? = some y → p y := by
  intro i y hi hy
  by_cases he : i = j
  · subst he; rw [hx] at hy; obtain rfl := Option.some.inj hy; exact hp
  · exact hb i y (by omega) hy
theorem before_suc2 {α : Type} {l : List α} {j : Nat} {x : α} {p : Nat → α → Prop} (hx : l[j]? = some x) (hp : p j x) (hb : ∀ i y, i < j → l[i]? = some y → p i y) : ∀ i y, i < j + 1 → l[i]? = some y → p i y := by
  intro i y hi hy
  by_cases he : i = j
  · subst he; rw [hx] at hy; obtain rfl := Option.some.inj hy; exact hp
  · exact hb i y (by omega) hy
theorem findq_at {α : Type} {l : List α} {p : α → Bool} {j : Nat} {d : α} (hd : l[j]? = some d) (hn : p d = true) (hb : ∀ i x, i < j → l[i]? = some x → p x = false) : l.find? p = some d := by
  obtain ⟨hj, rfl⟩ := List.getElem?_eq_some_iff.1 hd
  rw [List.find?_eq_some_iff_getElem]
  exact ⟨hn, j, hj, rfl, fun i hi => by rw [hb i _ hi (List.getElem?_eq_getElem (by omega))]; rfl⟩
theorem findq_no {α : Type} {l : List α} {p : α → Bool} (hb : ∀ i x, i < l.length → l[i]? = some x → p x = false) : l.find? p = none := by
  rw [List.find?_eq_none]
  intro x hx
  obtain ⟨i, hi⟩ := List.getElem?_of_mem hx
  rw [hb i x (List.getElem?_eq_some_iff.1 hi).1 hi]
  simp
theorem any_yes {α : Type} {l : List α} {p : α → Bool} {j : Nat} {x : α} (hx : l[j]? = some x) (hp : p x = true) : l.any p = true := List.any_eq_true.2 ⟨x, List.mem_of_getElem? hx, hp⟩
theorem any_no {α : Type} {l : List α} {p : α → Bool} (hb : ∀ i x, i < l.length → l[i]? = some x → p x = false) : l.any p = false := by
  refine List.any_eq_false.2 fun x hx => ?_
  obtain ⟨i, hi⟩ := List.getElem?_of_mem hx
  rw [hb i x (List.getElem?_eq_some_iff.1 hi).1 hi]
  simp
/-- A fact out of the rewriting's sight. -/
def Hid (p : Prop) : Prop := p
/-- A list made by appends: its elements' type e, their size s, its rows xs; its name, if any, from b on, below k. -/
def OutX (h : Hp) (b k e s : Nat) (xs : List (List D)) (ov : D) : Prop := (xs = [] ∧ ov = .nls) ∨ ∃ o, ov = .osl o ∧ b ≤ o ∧ o < k ∧ h o = .row e s xs true ∧ xs ≠ []
theorem OutX.put1 {h : Hp} {b k e s j : Nat} {xs : List (List D)} {ov : D} (hv : OutX h b k e s xs ov) (hj : k ≤ j ∨ j < b) {ob : Ob} : OutX (hput h j ob) b k e s xs ov := by
  rcases hv with hv | ⟨o, c1, c2, c3, c4, c5⟩
  · exact .inl hv
  · exact .inr ⟨o, c1, c2, by omega, by rw [hput_ne _ _ (by omega)]; exact c4, c5⟩
theorem OutX.up {h : Hp} {b k k' e s : Nat} {xs : List (List D)} {ov : D} (hv : OutX h b k e s xs ov) (hk : k ≤ k') : OutX h b k' e s xs ov := by
  rcases hv with hv | ⟨o, c1, c2, c3, c4, c5⟩
  · exact .inl hv
  · exact .inr ⟨o, c1, c2, by omega, c4, c5⟩
def rdX (e s : Nat) (xs : List (List D)) : D := if xs.isEmpty then .nls else .own e s xs
theorem OutX.ret {h : Hp} {b k e s : Nat} {xs : List (List D)} {ov : D} (hv : OutX h b k e s xs ov) : retL h [ov] = some [rdX e s xs] := by
  rcases hv with ⟨rfl, rfl⟩ | ⟨o, rfl, _, _, ho, hne⟩
  · rfl
  · have : xs.isEmpty = false := by cases xs with | nil => exact absurd rfl hne | cons => rfl
    simp only [rdX, this]
    simp only [go_sem, ↓reduceIte, Nat.reduceEqDiff, Nat.reduceAdd, Nat.reduceMul, Nat.reduceSub, Nat.reduceLT, Nat.reduceLeDiff, Int.reduceEq, Int.reduceLT, Int.reduceLE, Int.reduceNeg, Int.reduceAdd, Int.reduceSub, reduceCtorEq, *]
theorem OutX.ret2 {h : Hp} {b k e s : Nat} {xs : List (List D)} {ov : D} {q : Bool} (hv : OutX h b k e s xs ov) : retL h [ov, .bool q] = some [rdX e s xs, .bool q] := by
  rcases hv with ⟨rfl, rfl⟩ | ⟨o, rfl, _, _, ho, hne⟩
  · rfl
  · have : xs.isEmpty = false := by cases xs with | nil => exact absurd rfl hne | cons => rfl
    simp only [rdX, this]
    simp only [go_sem, ↓reduceIte, Nat.reduceEqDiff, Nat.reduceAdd, Nat.reduceMul, Nat.reduceSub, Nat.reduceLT, Nat.reduceLeDiff, Int.reduceEq, Int.reduceLT, Int.reduceLE, Int.reduceNeg, Int.reduceAdd, Int.reduceSub, reduceCtorEq, *]
theorem OutX.elems {h : Hp} {b k e s : Nat} {xs : List (List D)} {ov : D} (hv : OutX h b k e s xs ov) : AE.elems h ov = some xs := by
  rcases hv with ⟨rfl, rfl⟩ | ⟨o, rfl, _, _, ho, _⟩
  · rfl
  · rw [elems_osl, ho]; rfl
theorem rdX_cases (e s : Nat) (xs : List (List D)) : (xs = [] ∧ rdX e s xs = .nls) ∨ (xs ≠ [] ∧ rdX e s xs = .own e s xs) := by
  cases xs with
  | nil => exact .inl ⟨rfl, rfl⟩
  | cons a r => exact .inr ⟨by simp, rfl⟩
theorem rdX_ne {e s : Nat} {xs : List (List D)} (h : xs ≠ []) : rdX e s xs = .own e s xs := by
  cases xs with
  | nil => exact absurd rfl h
  | cons a r => rfl
/-! strings -/
def byt (s : ByteArray) (j : Nat) : Int := ((s.data[j]?.getD 0).toNat : Int)
theorem ixD_at {s : ByteArray} {j : Nat} (hj : j < s.size) : ∀ h, ixD h (j : Int) (.str s) = some (.int .u8 (byt s j), h) := by
  intro h
  have h0 : 0 ≤ (j : Int) ∧ ((j : Int)).toNat < s.size := ⟨by omega, by simpa using hj⟩
  simp only [ixD]
  rw [dif_pos h0]
  congr 2
  simp only [byt, D.int.injEq, true_and]
  have : s.data[j]? = some s.data[j] := Array.getElem?_eq_getElem hj
  rw [this]
  rfl
theorem byt_bd (s : ByteArray) (j : Nat) : 0 ≤ byt s j ∧ byt s j < 256 := by
  unfold byt
  have := (s.data[j]?.getD 0).toNat_lt
  omega
/-! rows of bools -/
def bl (A : List Bool) : List (List D) := A.map fun b => [.bool b]
theorem bl_at (A : List Bool) (j : Nat) : (bl A)[j]? = A[j]?.map fun b => [.bool b] := by simp [bl]
theorem bl_len (A : List Bool) : (bl A).length = A.length := by simp [bl]
theorem bl_all (A : List Bool) : ((bl A).all fun y => decide (y.length = 1)) = true := by simp [bl]
theorem bl_app (A : List Bool) (b : Bool) : bl A ++ [[.bool b]] = bl (A ++ [b]) := by simp [bl]
theorem bl_set (A : List Bool) (j : Nat) (b : Bool) : (bl A).set j [.bool b] = bl (A.set j b) := by simp [bl, List.map_set]
theorem bl_rep (n : Nat) (b : Bool) : List.replicate n [D.bool b] = bl (List.replicate n b) := by simp [bl]
theorem bl_ne {A : List Bool} (h : A ≠ []) : bl A ≠ [] := by simpa [bl] using h
attribute [go_sem] bl_at bl_len
/-- C up to j, no behind. -/
def pre (C : List Bool) (j : Nat) : List Bool := C.take j ++ List.replicate (C.length - j) false
theorem pre_len (C : List Bool) {j : Nat} (h : j ≤ C.length) : (pre C j).length = C.length := by simp [pre]; omega
theorem pre_zero (C : List Bool) : pre C 0 = List.replicate C.length false := by simp [pre]
theorem pre_all (C : List Bool) : pre C C.length = C := by simp [pre]
theorem pre_at (C : List Bool) {j : Nat} (h : j < C.length) : (pre C j)[j]? = some false := by
  unfold pre
  rw [List.getElem?_append_right (by simp; omega)]
  simp [List.getElem?_replicate]
  omega
theorem pre_set {C : List Bool} {j : Nat} {c : Bool} (h : C[j]? = some c) : (pre C j).set j c = pre C (j + 1) := by
  have hj := (List.getElem?_eq_some_iff.1 h).1
  unfold pre
  rw [List.set_append_right _ _ (by simp; omega)]
  have h1 : j - (C.take j).length = 0 := by simp; omega
  rw [h1, show C.length - j = (C.length - (j + 1)) + 1 by omega, List.replicate_succ, List.set_cons_zero, List.take_add_one, h]
  simp
end Go.Proofs.Ytbpccdengeakgaa.AE
