/-
  Plain facts on the printed functions of package edit: Right and Apply in plain words, and what Join comes to. No program in sight.
-/
import Derived.Test.YtkokiggccbkngaaPAllx2
import Derived.Test.YtkokiggccbkngaaPAllx3
namespace Go.Proofs.Ytkokiggccbkngaa.Pure
open Go.RowKit Go.Proofs.Ytkokiggccbkngaa.PAll Go.Proofs.YtkokiggccbkngaaW.PrintWords Go.Proofs.YtkokiggccbkngaaW.PrintLast

theorem up (i : Nat) (h : i < 4611686018427387904) : wrap64 ((i : Int) + 1) = ((i + 1 : Nat) : Int) := by unfold wrap64; omega
theorem dn (i : Nat) (h : i < 4611686018427387904) : wrap64 (((i + 1 : Nat) : Int) - 1) = (i : Int) := by unfold wrap64; omega
theorem wr (i : Int) (h0 : -4611686018427387904 ≤ i) (h : i < 4611686018427387904) : wrap64 i = i := by unfold wrap64; omega
theorem ba_list {a b : ByteArray} : a.toList = b.toList ↔ a = b := by
  constructor
  · intro h
    obtain ⟨⟨l⟩⟩ := a
    obtain ⟨⟨m⟩⟩ := b
    rw [ByteArray.toList_eq, ByteArray.toList_eq] at h
    simp at h
    rw [h]
  · rintro rfl; rfl
theorem rd_at (l : List S40) (i : Nat) (h : i < l.length) : rd_T40 l (i : Int) = l[i] := by
  unfold rd_T40
  rw [Int.toNat_natCast, List.getD_eq_getElem?_getD, List.getElem?_eq_getElem h]
  rfl
/-! ### Right -/
def badS (n : Int) (x : S40) : Bool := decide (x.f0 < 0) || (decide (x.f0 > x.f1) || decide (x.f1 > n))
def hits (p : Option S40) (x : S40) : Bool := match p with
  | none => false
  | some y => decide (x.f0 < y.f1) || decide (x.f0 = y.f0)
def rgoS (n : Int) : Option S40 → List S40 → Int
  | _, [] => 0
  | p, x :: r => if badS n x = true then 2 else if hits p x = true then 14 else rgoS n (some x) r
def rightS (n : Int) (l : List S40) : Int := if l.length > 64 then 4 else rgoS n none l
def prevS (l : List S40) : Nat → Option S40
  | 0 => none
  | i + 1 => l[i]?
theorem right_go (l : List S40) (n : Int) (hl : l.length ≤ 64) : ∀ (d i : Nat), i + d = l.length → Ev (fun k => edit_Right.l0 k l n l (l.length : Int) (i : Int)) (rgoS n (prevS l i) (l.drop i))
  | 0, i, h => by
    refine Ev.step (fun k => by rw [edit_Right.l0]) ?_
    have h1 : ¬ ((i : Int) < (l.length : Int)) := by omega
    rw [List.drop_of_length_le (by omega)]
    simp only [if_neg h1, rgoS]
    exact Ev.now _
  | d + 1, i, h => by
    refine Ev.step (fun k => by rw [edit_Right.l0]) ?_
    have hi : i < l.length := by omega
    have h1 : (i : Int) < (l.length : Int) := by omega
    have h2 : (0 : Int) ≤ (i : Int) := by omega
    have ih := right_go l n hl d (i + 1) (by omega)
    rw [List.drop_eq_getElem_cons hi, rgoS]
    have hp : prevS l (i + 1) = some l[i] := List.getElem?_eq_getElem hi
    rw [hp] at ih
    simp only [if_pos h1, if_pos h2, rd_at l i hi]
    have bad : Ev (fun k => edit_Right.j1 k l n (i : Int) l (l.length : Int) (i : Int) true l[i].f0 l[i].f1 l[i].f2) 2 := by
      refine Ev.step (fun k => by rw [edit_Right.j1]) ?_
      simp only [if_true]
      exact Ev.now _
    by_cases c1 : l[i].f0 < 0
    · simp only [if_pos c1, badS, decide_eq_true c1, Bool.true_or, if_true]; exact bad
    by_cases c2 : l[i].f0 > l[i].f1
    · simp only [if_neg c1, if_pos c2, badS, decide_eq_true c2, Bool.true_or, Bool.or_true, if_true]; exact bad
    by_cases c3 : l[i].f1 > n
    · simp only [if_neg c1, if_neg c2, badS, decide_eq_true c3, Bool.or_true, if_true]; exact bad
    have e : badS n l[i] = false := by simp [badS, c1, c2, c3]
    simp only [if_neg c1, if_neg c2, decide_eq_false c3, e, Bool.false_eq_true, if_false]
    refine Ev.step (fun k => by rw [edit_Right.j1]) ?_
    simp only [Bool.false_eq_true, if_false]
    cases i with
    | zero =>
      have z : ¬ (((0 : Nat) : Int) > 0) := by omega
      have u := up 0 (by omega)
      simp only [if_neg z, u, prevS, hits, Bool.false_eq_true, if_false]
      exact ih
    | succ j =>
      have z : (((j + 1 : Nat) : Int) > 0) := by omega
      have z1 : (0 : Int) ≤ (j : Int) := by omega
      have z2 : (j : Int) < (l.length : Int) := by omega
      have hp2 : prevS l (j + 1) = some l[j] := List.getElem?_eq_getElem (by omega)
      simp only [if_pos z, dn j (by omega), if_pos z1, if_pos z2, rd_at l j (by omega), hp2, hits, up (j + 1) (by omega)]
      by_cases d1 : l[j + 1].f0 < l[j].f1
      · simp only [if_pos d1, decide_eq_true d1, Bool.true_or, if_true]; exact Ev.now _
      by_cases d2 : l[j + 1].f0 = l[j].f0
      · simp only [if_neg d1, if_pos d2, decide_eq_true d2, Bool.or_true, if_true]; exact Ev.now _
      · simp only [if_neg d1, if_neg d2, decide_eq_false d1, decide_eq_false d2, Bool.or_self, Bool.false_eq_true, if_false]
        exact ih
theorem right_ev (l : List S40) (n : Int) : Ev (fun k => edit_Right.f k l n) (rightS n l) := by
  unfold edit_Right.f rightS
  by_cases h : l.length > 64
  · have h' : (l.length : Int) > 64 := by omega
    simp only [if_pos h, if_pos h']; exact Ev.now _
  · have h' : ¬ ((l.length : Int) > 64) := by omega
    simp only [if_neg h, if_neg h']
    have := right_go l n (by omega) l.length 0 (by omega)
    rw [List.drop_zero] at this
    exact this
/-! ### Apply -/
def fitS (l : List S40) : Prop := ∀ x ∈ l, x.f2.size ≤ 140737488355328
theorem rgo_ok {n : Int} (hn : 0 ≤ n) : ∀ {l : List S40} {p : Option S40}, fitS l → rgoS n p l = 0 → okE n (match p with | none => 0 | some y => y.f1) l = true ∨ (l = [] ∧ ∃ y, p = some y ∧ ¬ (0 ≤ y.f1 ∧ y.f1 ≤ n)) ∨ (∃ y, p = some y ∧ ¬ (0 ≤ y.f1 ∧ y.f1 ≤ n))
  | [], none, _, _ => .inl (by simp [okE, hn])
  | [], some y, _, _ => by
    by_cases h : 0 ≤ y.f1 ∧ y.f1 ≤ n
    · exact .inl (by simp [okE, h.1, h.2])
    · exact .inr (.inr ⟨y, rfl, h⟩)
  | x :: r, p, hf, h => by
    rw [rgoS] at h
    by_cases c1 : badS n x = true
    · rw [if_pos c1] at h; omega
    rw [if_neg c1] at h
    by_cases c2 : hits p x = true
    · rw [if_pos c2] at h; omega
    rw [if_neg c2] at h
    have c1' : badS n x = false := Bool.eq_false_iff.2 c1
    simp only [badS, Bool.or_eq_false_iff, decide_eq_false_iff_not] at c1'
    have ih := rgo_ok hn (fun y hy => hf y (List.mem_cons_of_mem _ hy)) h
    have ok2 : okE n x.f1 r = true := by
      rcases ih with h1 | h1 | h1
      · exact h1
      · obtain ⟨_, y, hy, h2⟩ := h1
        obtain rfl := Option.some.inj hy
        exact absurd ⟨by omega, by omega⟩ h2
      · obtain ⟨y, hy, h2⟩ := h1
        obtain rfl := Option.some.inj hy
        exact absurd ⟨by omega, by omega⟩ h2
    have hx := hf x List.mem_cons_self
    cases p with
    | none =>
      left
      simp only [okE, Bool.and_eq_true, decide_eq_true_eq]
      exact ⟨⟨⟨⟨⟨Int.le_refl _, by omega⟩, by omega⟩, by omega⟩, hx⟩, ok2⟩
    | some y =>
      by_cases hy : 0 ≤ y.f1
      · left
        have c2' : hits (some y) x = false := Bool.eq_false_iff.2 c2
        simp only [hits, Bool.or_eq_false_iff, decide_eq_false_iff_not] at c2'
        simp only [okE, Bool.and_eq_true, decide_eq_true_eq]
        exact ⟨⟨⟨⟨⟨hy, by omega⟩, by omega⟩, by omega⟩, hx⟩, ok2⟩
      · right; right
        exact ⟨y, rfl, fun h => hy h.1⟩
theorem right_len {n : Int} {l : List S40} (h : rightS n l = 0) : l.length ≤ 64 := by
  unfold rightS at h
  by_cases c : l.length > 64
  · rw [if_pos c] at h; omega
  · omega
theorem right_rgo {n : Int} {l : List S40} (h : rightS n l = 0) : rgoS n none l = 0 := by
  have := right_len h
  unfold rightS at h
  rwa [if_neg (by omega)] at h
theorem right_ok {n : Int} {l : List S40} (hn : 0 ≤ n) (hf : fitS l) (h : rightS n l = 0) : okE n 0 l = true := by
  rcases rgo_ok hn hf (right_rgo h) with h1 | ⟨_, y, hy, _⟩ | ⟨y, hy, _⟩
  · exact h1
  · cases hy
  · cases hy
theorem sz_add : ∀ (l : List S40) (n d : Int), szE (n + d) l = szE n l + d
  | [], _, _ => rfl
  | x :: r, n, d => by
    rw [szE, szE, ← sz_add r]
    congr 1
    omega
theorem ext_size (s : ByteArray) (a b : Nat) (h : b ≤ s.size) : (s.extract a b).size = b - a := by
  rw [ByteArray.size_extract]; omega
theorem bld_size (s : ByteArray) : ∀ {l : List S40} {fr : Int}, okE s.size fr l = true → ((bldE s fr l).size : Int) + fr = szE s.size l
  | [], fr, h => by
    simp only [okE, Bool.and_eq_true, decide_eq_true_eq] at h
    rw [bldE, ext_size s _ _ (Nat.le_refl _), szE]
    omega
  | x :: r, fr, h => by
    simp only [okE, Bool.and_eq_true, decide_eq_true_eq] at h
    obtain ⟨⟨⟨⟨⟨h1, h2⟩, h3⟩, h4⟩, h5⟩, h6⟩ := h
    have ih := bld_size s h6
    rw [bldE, szE, sz_add, ByteArray.size_append, ByteArray.size_append, ext_size s _ _ (by omega)]
    omega
def applyS (s : ByteArray) (l : List S40) : ByteArray × Int :=
  if rightS s.size l = 0 then (if szE s.size l > 4000 then ((⟨#[]⟩ : ByteArray), 4) else (bldE s 0 l, 0)) else ((⟨#[]⟩ : ByteArray), rightS s.size l)
theorem apply_ev (s : ByteArray) (l : List S40) (hs : s.size ≤ 140737488355328) (hf : fitS l) : Ev (fun k => edit_Apply.f k s l) (applyS s l) := by
  unfold edit_Apply.f applyS
  simp only [if_pos hs]
  refine Ev.bind (right_ev l s.size) ?_
  by_cases c : rightS s.size l = 0
  · have ok := right_ok (by omega) hf c
    have hz := bld_size s ok
    have hc : l.length ≤ 64 ∧ okE s.size 0 l = true ∧ szE s.size l = ((bldE s 0 l).size : Int) := ⟨right_len c, ok, by omega⟩
    simp only [if_pos c, if_pos hc]
    by_cases c2 : szE s.size l > 4000
    · simp only [if_pos c2]; exact Ev.now _
    · simp only [if_neg c2]; exact Ev.now _
  · simp only [if_neg c]; exact Ev.now _
end Go.Proofs.Ytkokiggccbkngaa.Pure
