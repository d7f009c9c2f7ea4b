/-
  EditKeeps: a byte that is not replaced is where Move says, and Move increases, for every string of at most 2000 bytes and all edits. No condition beside the given statement's own.
-/
import Derived.Test.YtkokiggccbkngaaPureInvert
import Derived.Test.YtkokiggccbkngaaPureAlive
import Derived.Test.YtkokiggccbkngaaPAllx13
namespace Go.Proofs.Ytkokiggccbkngaa.Pure
open Go.RowKit Go.Proofs.Ytkokiggccbkngaa.PAll Go.Proofs.YtkokiggccbkngaaW.PrintWords Go.Proofs.YtkokiggccbkngaaW.PrintLast
/-- Move's walk, nothing wraps -/
def mvP (off : Int) : Int → List S40 → Int × Bool
  | a, [] => (a, true)
  | a, x :: r => if x.f0 ≤ off ∧ off < x.f1 then (0, false) else if x.f1 ≤ off then mvP off (a + ((x.f2.size : Int) - (x.f1 - x.f0))) r else mvP off a r
theorem mv_eq {n off : Int} : ∀ (l : List S40) (fr : Int) (j : Nat) (a : Int), okE n fr l = true → 0 ≤ n → n ≤ 140737488355328 → j + l.length ≤ 100 → -(j * 281474976710656 : Int) ≤ a → a ≤ (j * 281474976710656 : Int) → mvS off a l = mvP off a l := by
  intro l
  induction l with
  | nil => intros; rfl
  | cons x r IH =>
    intro fr j a ok n0 n1 hj a0 a1
    simp only [okE, Bool.and_eq_true, decide_eq_true_eq] at ok
    obtain ⟨⟨⟨⟨⟨o1, o2⟩, o3⟩, o4⟩, o5⟩, o6⟩ := ok
    rw [List.length_cons] at hj
    have w3 : wrap64 (x.f1 - x.f0) = x.f1 - x.f0 := wr _ (by omega) (by omega)
    have w4 : wrap64 ((x.f2.size : Int) - (x.f1 - x.f0)) = (x.f2.size : Int) - (x.f1 - x.f0) := wr _ (by omega) (by omega)
    have w5 : wrap64 (a + ((x.f2.size : Int) - (x.f1 - x.f0))) = a + ((x.f2.size : Int) - (x.f1 - x.f0)) := wr _ (by omega) (by omega)
    rw [mvS, mvP, w3, w4, w5, IH x.f1 (j + 1) _ o6 n0 n1 (by omega) (by omega) (by omega), IH x.f1 (j + 1) a o6 n0 n1 (by omega) (by omega) (by omega)]
theorem mv_stay {n off : Int} : ∀ (l : List S40) (fr a : Int), okE n fr l = true → off < fr → mvP off a l = (a, true)
  | [], _, _, _, _ => rfl
  | x :: r, fr, a, ok, h => by
    simp only [okE, Bool.and_eq_true, decide_eq_true_eq] at ok
    obtain ⟨⟨⟨⟨⟨o1, o2⟩, o3⟩, o4⟩, o5⟩, o6⟩ := ok
    rw [mvP, if_neg (by omega), if_neg (by omega)]
    exact mv_stay r x.f1 a o6 (by omega)
theorem mv_low {n off : Int} : ∀ (l : List S40) (fr a k : Int), okE n fr l = true → fr ≤ off → mvP off (off + a) l = (k, true) → fr + a ≤ k
  | [], fr, a, k, _, h, hm => by
    rw [mvP] at hm
    simp only [Prod.mk.injEq, and_true] at hm
    omega
  | x :: r, fr, a, k, ok, h, hm => by
    simp only [okE, Bool.and_eq_true, decide_eq_true_eq] at ok
    obtain ⟨⟨⟨⟨⟨o1, o2⟩, o3⟩, o4⟩, o5⟩, o6⟩ := ok
    rw [mvP] at hm
    by_cases c1 : x.f0 ≤ off ∧ off < x.f1
    · rw [if_pos c1] at hm; simp at hm
    rw [if_neg c1] at hm
    by_cases c2 : x.f1 ≤ off
    · rw [if_pos c2, Int.add_assoc] at hm
      have := mv_low r x.f1 (a + ((x.f2.size : Int) - (x.f1 - x.f0))) k o6 c2 hm
      omega
    · rw [if_neg c2, mv_stay r x.f1 _ o6 (by omega)] at hm
      simp only [Prod.mk.injEq, and_true] at hm
      omega
theorem mv_up {n i j : Int} (hij : i < j) : ∀ (l : List S40) (fr a k m : Int), okE n fr l = true → fr ≤ i → mvP i (i + a) l = (k, true) → mvP j (j + a) l = (m, true) → k < m
  | [], fr, a, k, m, _, _, h1, h2 => by
    rw [mvP] at h1 h2
    simp only [Prod.mk.injEq, and_true] at h1 h2
    omega
  | x :: r, fr, a, k, m, ok, h, h1, h2 => by
    simp only [okE, Bool.and_eq_true, decide_eq_true_eq] at ok
    obtain ⟨⟨⟨⟨⟨o1, o2⟩, o3⟩, o4⟩, o5⟩, o6⟩ := ok
    rw [mvP] at h1 h2
    by_cases c1 : x.f0 ≤ i ∧ i < x.f1
    · rw [if_pos c1] at h1; simp at h1
    rw [if_neg c1] at h1
    by_cases d1 : x.f0 ≤ j ∧ j < x.f1
    · rw [if_pos d1] at h2; simp at h2
    rw [if_neg d1] at h2
    by_cases c2 : x.f1 ≤ i
    · rw [if_pos c2, Int.add_assoc] at h1
      rw [if_pos (by omega), Int.add_assoc] at h2
      exact mv_up hij r x.f1 _ k m o6 c2 h1 h2
    · rw [if_neg c2, mv_stay r x.f1 _ o6 (by omega)] at h1
      simp only [Prod.mk.injEq, and_true] at h1
      by_cases d2 : x.f1 ≤ j
      · rw [if_pos d2, Int.add_assoc] at h2
        have := mv_low r x.f1 _ m o6 d2 h2
        omega
      · rw [if_neg d2, mv_stay r x.f1 _ o6 (by omega)] at h2
        simp only [Prod.mk.injEq, and_true] at h2
        omega
theorem bo_app (a b : ByteArray) : bytesOf (a ++ b) = bytesOf a ++ bytesOf b := by
  unfold bytesOf
  rw [ByteArray.data_append, Array.toList_append, List.map_append]
theorem bo_ext (s : ByteArray) (a b : Nat) : bytesOf (s.extract a b) = ((bytesOf s).drop a).take (b - a) := by
  unfold bytesOf
  rw [ByteArray.data_extract, Array.toList_extract, List.extract_eq_take_drop, List.map_take, List.map_drop]
theorem at_ext (s : ByteArray) (P C : ByteArray) (fr e : Nat) (i : Nat) (h1 : fr ≤ i) (h2 : i < e) (h3 : e ≤ s.size) : (bytesOf (P ++ (s.extract fr e ++ C))).getD (P.size + (i - fr)) 0 = (bytesOf s).getD i 0 := by
  have hP : (bytesOf P).length = P.size := bytesOf_length P
  have hs : (bytesOf s).length = s.size := bytesOf_length s
  rw [bo_app, bo_app, bo_ext]
  simp only [List.getD_eq_getElem?_getD]
  rw [List.getElem?_append_right (by omega), hP, Nat.add_sub_cancel_left, List.getElem?_append_left (by rw [List.length_take, List.length_drop, hs]; omega), List.getElem?_take_of_lt (by omega), List.getElem?_drop]
  congr 2
  omega
theorem keep_go (s : ByteArray) (i : Nat) (hi : i < s.size) : ∀ (l : List S40) (fr : Int) (P : ByteArray) (k : Int), okE s.size fr l = true → fr ≤ (i : Int) → mvP (i : Int) ((i : Int) + ((P.size : Int) - fr)) l = (k, true) →
    0 ≤ k ∧ k < ((P ++ bldE s fr l).size : Int) ∧ (bytesOf (P ++ bldE s fr l)).getD k.toNat 0 = (bytesOf s).getD i 0
  | [], fr, P, k, ok, h, hm => by
    simp only [okE, Bool.and_eq_true, decide_eq_true_eq] at ok
    rw [mvP] at hm
    simp only [Prod.mk.injEq, and_true] at hm
    have e : bldE s fr [] = s.extract fr.toNat s.size ++ ByteArray.empty := by rw [bldE, ByteArray.append_empty]
    have := at_ext s P ByteArray.empty fr.toNat s.size i (by omega) hi (Nat.le_refl _)
    rw [← e] at this
    refine ⟨by omega, ?_, ?_⟩
    · rw [ByteArray.size_append, bldE, ext_size s _ _ (Nat.le_refl _)]; omega
    · rw [show k.toNat = P.size + (i - fr.toNat) by omega]
      exact this
  | x :: r, fr, P, k, ok, h, hm => by
    simp only [okE, Bool.and_eq_true, decide_eq_true_eq] at ok
    obtain ⟨⟨⟨⟨⟨o1, o2⟩, o3⟩, o4⟩, o5⟩, o6⟩ := ok
    have hA : (s.extract fr.toNat x.f0.toNat).size = x.f0.toNat - fr.toNat := ext_size s _ _ (by omega)
    rw [mvP] at hm
    by_cases c1 : x.f0 ≤ (i : Int) ∧ (i : Int) < x.f1
    · rw [if_pos c1] at hm; simp at hm
    rw [if_neg c1] at hm
    by_cases c2 : x.f1 ≤ (i : Int)
    · rw [if_pos c2] at hm
      obtain ⟨P2, hP2⟩ : ∃ P2, P2 = P ++ s.extract fr.toNat x.f0.toNat ++ x.f2 := ⟨_, rfl⟩
      have hP2s : (P2.size : Int) = x.f0 + ((P.size : Int) - fr) + (x.f2.size : Int) := by
        rw [hP2, ByteArray.size_append, ByteArray.size_append, hA]; omega
      have ht : P ++ bldE s fr (x :: r) = P2 ++ bldE s x.f1 r := by
        rw [bldE, hP2]; simp only [ByteArray.append_assoc]
      rw [ht]
      refine keep_go s i hi r x.f1 P2 k o6 c2 ?_
      rw [← hm, hP2s]
      congr 1
      omega
    · rw [if_neg c2, mv_stay r x.f1 _ o6 (by omega)] at hm
      simp only [Prod.mk.injEq, and_true] at hm
      have := at_ext s P (x.f2 ++ bldE s x.f1 r) fr.toNat x.f0.toNat i (by omega) (by omega) (by omega)
      rw [bldE, ByteArray.append_assoc]
      refine ⟨by omega, ?_, ?_⟩
      · rw [ByteArray.size_append, ByteArray.size_append, hA]; omega
      · rw [show k.toNat = P.size + (i - fr.toNat) by omega]
        exact this
theorem keeps_go (s : ByteArray) (l : List S40) (hs : s.size ≤ 2000) (hr : rightS s.size l = 0) (ok : okE s.size 0 l = true) : ∀ (d i : Nat) (last : Int), i + d = s.size → (∀ (j : Nat) (k : Int), i ≤ j → mvP (j : Int) ((j : Int) + 0) l = (k, true) → last < k) →
    Ev (fun k => codesearchlaw21_EditKeeps.l0 k s l (bldE s 0 l) last (i : Int)) true
  | 0, i, last, h, _ => by
    refine Ev.step (fun k => by rw [codesearchlaw21_EditKeeps.l0]) ?_
    have h1 : ¬ ((i : Int) < (s.size : Int)) := by omega
    simp only [if_neg h1]
    exact Ev.now _
  | d + 1, i, last, h, hlast => by
    refine Ev.step (fun k => by rw [codesearchlaw21_EditKeeps.l0]) ?_
    have h1 : (i : Int) < (s.size : Int) := by omega
    have h2 : (0 : Int) ≤ (i : Int) := by omega
    have em : moveS l s.size i = mvP (i : Int) ((i : Int) + 0) l := by
      unfold moveS
      rw [if_pos ⟨hr, h2, h1⟩, Int.add_zero]
      exact mv_eq l 0 1 _ ok (by omega) (by omega) (by have := right_len hr; omega) (by omega) (by omega)
    simp only [if_pos h1]
    refine Ev.bind (move_ev l s.size i) ?_
    rw [em]
    cases hm : mvP (i : Int) ((i : Int) + 0) l with
    | mk k b =>
      cases b with
      | false =>
        simp only [Bool.false_eq_true, if_false, up i (by omega)]
        exact keeps_go s l hs hr ok d (i + 1) last (by omega) (fun j k hj hk => hlast j k (by omega) hk)
      | true =>
        obtain ⟨k0, k1, k2⟩ := keep_go s i (by omega) l 0 (⟨#[]⟩ : ByteArray) k ok (by omega) (by rw [← hm]; rfl)
        have e0 : (⟨#[]⟩ : ByteArray) ++ bldE s 0 l = bldE s 0 l := ByteArray.empty_append
        rw [e0] at k1 k2
        have kl := hlast i k (Nat.le_refl _) hm
        have c1 : ¬ (k ≤ last) := by omega
        have c2 : ¬ (k ≥ ((bldE s 0 l).size : Int)) := by omega
        have c3 : bt (bldE s 0 l) k = bt s (i : Int) := by
          rw [← rd_bytesOf, ← rd_bytesOf]
          exact k2
        simp only [if_true, if_neg c1, if_neg c2, if_pos k0, if_pos k1, if_pos h2, if_pos c3, up i (by omega)]
        exact keeps_go s l hs hr ok d (i + 1) k (by omega) (fun j m hj hk => mv_up (by omega) l 0 0 k m ok (by omega) hm hk)
theorem fit_of3 {l : List S40} (h : ∀ x0 ∈ l, ((Lit.int .i64 x0.f0).wf = true ∧ (Lit.int .i64 x0.f1).wf = true ∧ x0.f2.size ≤ 140737488351232)) : fitS l := fun x hx => by have := (h x hx).2.2; omega
theorem EditKeeps : ∀ (a0 : ByteArray) (a1 : (List S40)), a0.size ≤ 140737488351232 → (a1.length * 32 ≤ 140737488351232 ∧ ∀ x0 ∈ a1, ((Lit.int .i64 x0.f0).wf = true ∧ (Lit.int .i64 x0.f1).wf = true ∧ x0.f2.size ≤ 140737488351232)) → ∃ k, codesearchlaw21_EditKeeps.f k a0 a1 = some true := by
  intro s l hs ⟨hn, hl⟩
  refine Ev.rounds (g := fun k => codesearchlaw21_EditKeeps.f k s l) ?_
  unfold codesearchlaw21_EditKeeps.f
  refine Ev.bind alive_ev ?_
  simp only [if_true]
  by_cases c : (s.size : Int) > 2000
  · simp only [if_pos c]; exact Ev.now _
  simp only [if_neg c]
  have hf := fit_of3 hl
  refine Ev.bind (apply_ev s l (by omega) hf) ?_
  by_cases c2 : (applyS s l).2 = 0
  · obtain ⟨r1, r2, r3⟩ := apply_ok c2
    have ok := right_ok (by omega) hf r1
    simp only [if_pos c2]
    rw [r3]
    refine keeps_go s l (by omega) r1 ok s.size 0 (-1) (by omega) (fun j k _ hk => ?_)
    have := mv_low l 0 0 k ok (by omega) hk
    omega
  · simp only [if_neg c2]; exact Ev.now _
end Go.Proofs.Ytkokiggccbkngaa.Pure
