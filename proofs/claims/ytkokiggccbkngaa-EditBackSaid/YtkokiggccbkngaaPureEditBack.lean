/-
  EditBack: Invert restores the string, and Size is the change of its length, for every string of at most 4000 bytes and all edits. No condition beside the given statement's own.
-/
import Derived.Test.YtkokiggccbkngaaPureInvert
import Derived.Test.YtkokiggccbkngaaPureAlive
import Derived.Test.YtkokiggccbkngaaPAllx13
namespace Go.Proofs.Ytkokiggccbkngaa.Pure
open Go.RowKit Go.Proofs.Ytkokiggccbkngaa.PAll Go.Proofs.YtkokiggccbkngaaW.PrintWords Go.Proofs.YtkokiggccbkngaaW.PrintLast
theorem cut_mid (P A C : ByteArray) (a b : Nat) (ha : a = P.size) (hb : b = P.size + A.size) : (P ++ (A ++ C)).extract a b = A := by
  have h := ByteArray.extract_append_size_add (a := P) (b := A ++ C) (i := 0) (j := A.size)
  rw [Nat.add_zero] at h
  rw [ha, hb, h]
  exact ByteArray.extract_append_eq_left rfl
theorem ext_join (s : ByteArray) (a b c : Nat) (h1 : a ≤ b) (h2 : b ≤ c) : s.extract a b ++ s.extract b c = s.extract a c := by
  rw [ByteArray.extract_append_extract, Nat.min_eq_left h1, Nat.max_eq_right h2]
theorem back_go (s : ByteArray) (hs : s.size ≤ 140737488355328) : ∀ (l : List S40) (fr : Int) (P : ByteArray) (p : Option Int) (q : Option S40) (v : List S40), okE s.size fr l = true → invS s p ((P.size : Int) - fr) l = some v → (∀ y, q = some y → y.f1 = (P.size : Int) ∧ p = some y.f0) →
    okE (P ++ bldE s fr l).size (P.size : Int) v = true ∧ bldE (P ++ bldE s fr l) (P.size : Int) v = s.extract fr.toNat s.size ∧ rgoS (P ++ bldE s fr l).size q v = 0 ∧ v.length = l.length
  | [], fr, P, p, q, v, ok, h, hq => by
    rw [invS] at h
    rw [← Option.some.inj h]
    simp only [okE, Bool.and_eq_true, decide_eq_true_eq] at ok
    refine ⟨?_, ?_, rfl, rfl⟩
    · simp only [okE, Bool.and_eq_true, decide_eq_true_eq, ByteArray.size_append]
      omega
    · rw [bldE, bldE, Int.toNat_natCast, ByteArray.size_append]
      exact ByteArray.extract_append_eq_right rfl rfl
  | x :: r, fr, P, p, q, v, ok, h, hq => by
    simp only [okE, Bool.and_eq_true, decide_eq_true_eq] at ok
    obtain ⟨⟨⟨⟨⟨o1, o2⟩, o3⟩, o4⟩, o5⟩, o6⟩ := ok
    rw [invS] at h
    by_cases c : p = some (x.f0 + ((P.size : Int) - fr))
    · rw [if_pos c] at h; cases h
    rw [if_neg c] at h
    obtain ⟨u, hu, rfl⟩ := Option.map_eq_some_iff.1 h
    have hA : (s.extract fr.toNat x.f0.toNat).size = x.f0.toNat - fr.toNat := ext_size s _ _ (by omega)
    obtain ⟨P2, hP2⟩ : ∃ P2, P2 = P ++ s.extract fr.toNat x.f0.toNat ++ x.f2 := ⟨_, rfl⟩
    have hP2s : (P2.size : Int) = x.f0 + ((P.size : Int) - fr) + (x.f2.size : Int) := by
      rw [hP2, ByteArray.size_append, ByteArray.size_append, hA]; omega
    have ht : P ++ bldE s fr (x :: r) = P2 ++ bldE s x.f1 r := by
      rw [bldE, hP2]; simp only [ByteArray.append_assoc]
    have em : (P.size : Int) - fr + ((x.f2.size : Int) - (x.f1 - x.f0)) = (P2.size : Int) - x.f1 := by rw [hP2s]; omega
    rw [em] at hu
    obtain ⟨h1, h2, h3, h4⟩ := back_go s hs r x.f1 P2 (some (x.f0 + ((P.size : Int) - fr))) (some (invE s ((P.size : Int) - fr) x)) u o6 hu (by
      intro y hy
      rw [← Option.some.inj hy]
      exact ⟨hP2s.symm, rfl⟩)
    rw [ht]
    have hT : (P2 ++ bldE s x.f1 r).size = P2.size + (bldE s x.f1 r).size := ByteArray.size_append
    have hi1 : (invE s ((P.size : Int) - fr) x).f1 = (P2.size : Int) := hP2s.symm
    have hi0 : (invE s ((P.size : Int) - fr) x).f0 = x.f0 + ((P.size : Int) - fr) := rfl
    have hi2 : (invE s ((P.size : Int) - fr) x).f2 = s.extract x.f0.toNat x.f1.toNat := rfl
    have hsz : (s.extract x.f0.toNat x.f1.toNat).size ≤ 140737488355328 := by rw [ext_size s _ _ (by omega)]; omega
    refine ⟨?_, ?_, ?_, by simp [h4]⟩
    · simp only [okE, Bool.and_eq_true, decide_eq_true_eq, hi0, hi1, hi2]
      exact ⟨⟨⟨⟨⟨by omega, by omega⟩, by omega⟩, by omega⟩, hsz⟩, h1⟩
    · rw [bldE, hi0, hi1, hi2, h2, ← ht]
      have e1 : (P ++ bldE s fr (x :: r)).extract ((P.size : Int)).toNat (x.f0 + ((P.size : Int) - fr)).toNat = s.extract fr.toNat x.f0.toNat := by
        rw [bldE, ByteArray.append_assoc]
        exact cut_mid P _ _ _ _ (by omega) (by rw [hA]; omega)
      rw [e1, ByteArray.append_assoc, ext_join s _ _ _ (by omega) (by omega), ext_join s _ _ _ (by omega) (by omega)]
    · rw [rgoS]
      have b1 : badS (P2 ++ bldE s x.f1 r).size (invE s ((P.size : Int) - fr) x) = false := by
        simp only [badS, Bool.or_eq_false_iff, decide_eq_false_iff_not, hi0, hi1]
        refine ⟨by omega, by omega, by omega⟩
      have b2 : hits q (invE s ((P.size : Int) - fr) x) = false := by
        cases hqq : q with
        | none => rfl
        | some y =>
          obtain ⟨y1, y2⟩ := hq y hqq
          simp only [hits, Bool.or_eq_false_iff, decide_eq_false_iff_not, hi0]
          refine ⟨by omega, fun e => c (by rw [y2, ← e])⟩
      rw [b1, b2]
      simp only [Bool.false_eq_true, if_false]
      exact h3
theorem szW_eq {n : Int} : ∀ (l : List S40) (fr : Int) (j : Nat) (a : Int), okE n fr l = true → 0 ≤ n → n ≤ 140737488355328 → j + l.length ≤ 64 → -(j * 281474976710656 : Int) ≤ a → a ≤ (j * 281474976710656 : Int) → szW a l = szE a l := by
  intro l
  induction l with
  | nil => intros; rfl
  | cons x r IH =>
    intro fr j a ok n0 n1 hj a0 a1
    simp only [okE, Bool.and_eq_true, decide_eq_true_eq] at ok
    obtain ⟨⟨⟨⟨⟨o1, o2⟩, o3⟩, o4⟩, o5⟩, o6⟩ := ok
    rw [List.length_cons] at hj
    have w3 : wrap64 (x.f1 - x.f0) = x.f1 - x.f0 := wr _ (by omega) (by omega)
    have w4 : wrap64 ((x.f2.size : Int) - (x.f1 - x.f0)) = (x.f2.size : Int) - (x.f1 - x.f0) := wr _ (by omega) (by omega)
    have w5 : wrap64 (a + ((x.f2.size : Int) - (x.f1 - x.f0))) = a + ((x.f2.size : Int) - (x.f1 - x.f0)) := wr _ (by omega) (by omega)
    rw [szW, szE, wrapA, w3, w4, w5]
    exact IH x.f1 (j + 1) _ o6 n0 n1 (by omega) (by omega) (by omega)
theorem fit_of2 {l : List S40} (h : ∀ x0 ∈ l, ((Lit.int .i64 x0.f0).wf = true ∧ (Lit.int .i64 x0.f1).wf = true ∧ x0.f2.size ≤ 140737488351232)) : fitS l := fun x hx => by have := (h x hx).2.2; omega
theorem EditBack : ∀ (a0 : ByteArray) (a1 : (List S40)), a0.size ≤ 140737488351232 → (a1.length * 32 ≤ 140737488351232 ∧ ∀ x0 ∈ a1, ((Lit.int .i64 x0.f0).wf = true ∧ (Lit.int .i64 x0.f1).wf = true ∧ x0.f2.size ≤ 140737488351232)) → ∃ k, codesearchlaw21_EditBack.f k a0 a1 = some true := by
  intro s l hs ⟨hn, hl⟩
  refine Ev.rounds (g := fun k => codesearchlaw21_EditBack.f k s l) ?_
  unfold codesearchlaw21_EditBack.f
  refine Ev.bind alive_ev ?_
  simp only [if_true]
  by_cases c : (s.size : Int) > 4000
  · simp only [if_pos c]; exact Ev.now _
  simp only [if_neg c]
  have hf := fit_of2 hl
  refine Ev.bind (apply_ev s l (by omega) hf) ?_
  by_cases c2 : (applyS s l).2 = 0
  · obtain ⟨r1, r2, r3⟩ := apply_ok c2
    have ok := right_ok (by omega) hf r1
    have hz := bld_size s ok
    simp only [if_pos c2]
    refine Ev.bind (size_ev l (by omega)) ?_
    have e1 : szW 0 l = szE 0 l := szW_eq l 0 0 0 ok (by omega) (by omega) (by have := right_len r1; omega) (by omega) (by omega)
    have e2 : szE s.size l = szE 0 l + s.size := by have := sz_add l 0 (s.size : Int); rwa [Int.zero_add] at this
    have e3 : ((applyS s l).1.size : Int) = wrap64 ((s.size : Int) + szW 0 l) := by
      rw [r3, e1]
      show ((bldE s 0 l).size : Int) = _
      rw [wr _ (by omega) (by omega)]
      omega
    simp only [if_pos e3]
    refine Ev.bind (invert_ev s l (by omega) hf) ?_
    unfold invertS
    rw [if_pos c2]
    cases hv : invS s none 0 l with
    | none =>
      have d : ¬ ((invR [] none).2 = 0) := by simp [invR]
      simp only [if_neg d]
      exact Ev.now _
    | some v =>
      have d : (invR [] (some v)).2 = 0 := rfl
      have d2 : (invR [] (some v)).1 = v := rfl
      simp only [if_pos d, d2, r3]
      have key := back_go s (by omega) l 0 (⟨#[]⟩ : ByteArray) none none v ok (by rw [← hv]; rfl) (by intro y hy; cases hy)
      have e0 : (⟨#[]⟩ : ByteArray) ++ bldE s 0 l = bldE s 0 l := ByteArray.empty_append
      rw [e0] at key
      obtain ⟨k1, k2, k3, k4⟩ := key
      have k1' : okE (bldE s 0 l).size 0 v = true := k1
      have k2' : bldE (bldE s 0 l) 0 v = s := by
        have : bldE (bldE s 0 l) 0 v = s.extract 0 s.size := k2
        rw [this, ByteArray.extract_zero_size]
      have kf : fitS v := fun x hx => (ok_mem k1' x hx).2.2.2
      have kr : rightS (bldE s 0 l).size v = 0 := by
        unfold rightS
        rw [if_neg (by have := right_len r1; omega)]
        exact k3
      refine Ev.bind (apply_ev (bldE s 0 l) v (by omega) kf) ?_
      have kz := bld_size (bldE s 0 l) k1'
      rw [k2'] at kz
      have ka : applyS (bldE s 0 l) v = (s, 0) := by
        unfold applyS
        rw [if_pos kr, if_neg (by omega), k2']
      rw [ka]
      simp only [if_true, beq_self_eq_true]
      exact Ev.now _
  · simp only [if_neg c2]; exact Ev.now _
end Go.Proofs.Ytkokiggccbkngaa.Pure
