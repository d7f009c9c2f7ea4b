/-
  TextParts: for every string of at most 2,100 bytes the words are in order, apart, not empty, and cover just the word bytes; folding twice is folding once and leaves the words. No condition beside the given statement's own.
-/
import Derived.Test.YtkklemjidocngaaPureWords
namespace Go.Proofs.Ytkklemjidocngaa.Pure
open Go.RowKit Go.Proofs.Ytkklemjidocngaa.PAll Go.Proofs.YtkklemjidocngaaW.PrintWords Go.Proofs.YtkklemjidocngaaW.PrintLast

theorem foldN_range {c : Int} (h : 0 ≤ c ∧ c ≤ 255) : 0 ≤ foldN c ∧ foldN c ≤ 255 := by unfold foldN; split <;> omega
theorem foldN_twice (c : Int) : foldN (foldN c) = foldN c := by
  unfold foldN
  split
  · rw [if_neg (by omega)]
  · rfl
theorem wb_fold (c : Int) (h : 0 ≤ c ∧ c ≤ 255) : wb (foldN c) = wb c := by
  unfold foldN
  split
  · rename_i h
    have h1 : 97 ≤ c + 32 := by omega
    have h2 : c + 32 ≤ 122 := by omega
    unfold wb
    simp [h1, h2, h.1, h.2]
  · rfl
theorem foldS_size (s : ByteArray) : (foldS s).size = s.size := by unfold foldS; rw [strOfNums_size, List.length_map, bytesOf_length]
theorem bytesOf_strOfNums (xs : List Int) (h : ∀ x ∈ xs, 0 ≤ x ∧ x ≤ 255) : bytesOf (strOfNums xs) = xs := by
  unfold bytesOf
  rw [strOfNums_data, List.map_map]
  conv => rhs; rw [← List.map_id xs]
  refine List.map_congr_left (fun x hx => ?_)
  have := h x hx
  simp only [Function.comp, id]
  show ((UInt8.ofNat x.toNat).toNat : Int) = x
  rw [UInt8.toNat_ofNat']
  omega
theorem bytesOf_all (s : ByteArray) : ∀ x ∈ bytesOf s, 0 ≤ x ∧ x ≤ 255 := by
  intro x hx
  unfold bytesOf at hx
  obtain ⟨b, _, rfl⟩ := List.mem_map.1 hx
  have := b.toNat_lt
  omega
theorem bytesOf_foldS (s : ByteArray) : bytesOf (foldS s) = (bytesOf s).map foldN := by
  unfold foldS
  refine bytesOf_strOfNums _ (fun x hx => ?_)
  obtain ⟨b, hb, rfl⟩ := List.mem_map.1 hx
  exact foldN_range (bytesOf_all s b hb)
theorem foldS_twice (s : ByteArray) : foldS (foldS s) = foldS s := by
  show strOfNums ((bytesOf (foldS s)).map foldN) = strOfNums ((bytesOf s).map foldN)
  rw [bytesOf_foldS, List.map_map]
  congr 1
  refine List.map_congr_left (fun x _ => ?_)
  exact foldN_twice x
theorem bt_foldS (s : ByteArray) (i : Nat) (h : i < s.size) : bt (foldS s) i = foldN (bt s i) := by
  have hl : i < (bytesOf s).length := by rw [bytesOf_length]; exact h
  rw [← rd_bytesOf, ← rd_bytesOf, bytesOf_foldS]
  simp [rd, List.getD_eq_getElem?_getD, List.getElem?_eq_getElem hl]
theorem isW_fold (s : ByteArray) (i : Nat) (h : i < s.size) : isW (foldS s) i = isW s i := by
  unfold isW
  rw [bt_foldS s i h]
  exact wb_fold _ (bt_range s i)
theorem endW_fold (s : ByteArray) : ∀ d i, i + d = s.size → endW (foldS s) d i = endW s d i
  | 0, i, _ => rfl
  | d + 1, i, h => by
    unfold endW
    rw [isW_fold s i (by omega), endW_fold s d (i + 1) (by omega)]
theorem begW_fold (s : ByteArray) (i : Nat) (h : i < s.size) : begW (foldS s) i = begW s i := by
  unfold begW
  rw [isW_fold s i h, isW_fold s (i - 1) (by omega)]
theorem words_fold_go (s : ByteArray) : ∀ d i, i + d = s.size → wordsF (foldS s) d i = wordsF s d i
  | 0, i, _ => rfl
  | d + 1, i, h => by
    unfold wordsF
    rw [begW_fold s i (by omega), endW_fold s (d + 1) i h, words_fold_go s d (i + 1) (by omega)]
theorem words_fold (s : ByteArray) : wordsS (foldS s) = wordsS s := by
  unfold wordsS
  rw [foldS_size]
  exact words_fold_go s s.size 0 (by omega)

/-- a list of spans covers just the word bytes from p on -/
def Cov (s : ByteArray) : Bool → Nat → List Sp → Prop
  | _, p, [] => ∀ j, p ≤ j → j < s.size → isW s j = false
  | first, p, x :: r => ∃ a b : Nat, x = ⟨(a : Int), (b : Int)⟩ ∧ p ≤ a ∧ (first = false → p < a) ∧ a < b ∧ b ≤ s.size ∧ (∀ j, p ≤ j → j < a → isW s j = false) ∧ (∀ j, a ≤ j → j < b → isW s j = true) ∧ Cov s false b r
theorem cov_words (s : ByteArray) (d : Nat) : ∀ (i p : Nat) (first : Bool), i + d = s.size → p ≤ i → (first = false → p < i) → (i = 0 ∨ isW s (i - 1) = false) → (∀ j, p ≤ j → j < i → isW s j = false) → Cov s first p (wordsF s d i) := by
  induction d using Nat.strongRecOn with
  | _ d ih =>
    intro i p first h hp hf hw hn
    cases d with
    | zero =>
      unfold wordsF
      intro j h1 h2
      exact hn j h1 (by omega)
    | succ d =>
      by_cases hi : isW s i = true
      · have hb : begW s i = true := by
          unfold begW; rw [hi]
          rcases hw with rfl | hw
          · rfl
          · rw [hw]; simp
        have hle := endW_le s (d + 1) i
        have hgt : i < endW s (d + 1) i := by
          unfold endW; rw [if_pos hi]
          have := endW_le s d (i + 1); omega
        have e2 := words_skip s d (i + 1) (by omega) (by omega) (by simpa using hi)
        have e3 : endW s d (i + 1) = endW s (d + 1) i := by conv => rhs; unfold endW; rw [if_pos hi]
        unfold wordsF
        rw [hb, if_pos rfl, e2, e3]
        refine ⟨i, endW s (d + 1) i, rfl, hp, hf, hgt, by omega, hn, fun j h1 h2 => endW_in s (d + 1) i j h1 h2, ?_⟩
        by_cases hend : endW s (d + 1) i < s.size
        · have hz := endW_at s (d + 1) i (by omega)
          refine ih (s.size - (endW s (d + 1) i + 1)) (by omega) _ _ false (by omega) (by omega) (fun _ => by omega) (.inr (by simpa using hz)) (fun j h1 h2 => ?_)
          obtain rfl : j = endW s (d + 1) i := by omega
          exact hz
        · rw [show s.size - (endW s (d + 1) i + 1) = 0 by omega]
          unfold wordsF
          intro j h1 h2; omega
      · rw [Bool.not_eq_true] at hi
        have hb : begW s i = false := by unfold begW; rw [hi]; rfl
        unfold wordsF
        rw [hb]
        simp only [Bool.false_eq_true, if_false]
        refine ih d (by omega) (i + 1) p first (by omega) (by omega) (fun hf2 => by omega) (.inr (by simpa using hi)) (fun j h1 h2 => ?_)
        by_cases e : j = i
        · subst e; exact hi
        · exact hn j h1 (by omega)
theorem parts_l2 (s : ByteArray) (hs : s.size ≤ 1099511627776) : ∀ (d i : Nat), i + d = s.size → (∀ j, i ≤ j → j < s.size → isW s j = false) → Ev (fun k => codesearchlaw01_TextParts.l2 k s (i : Int)) true
  | 0, i, h, hn => by
    refine Ev.step (fun k => by rw [codesearchlaw01_TextParts.l2]) ?_
    have h1 : ¬ ((i : Int) < (s.size : Int)) := by omega
    simp only [if_neg h1]
    exact Ev.now _
  | d + 1, i, h, hn => by
    refine Ev.step (fun k => by rw [codesearchlaw01_TextParts.l2]) ?_
    have h1 : (i : Int) < (s.size : Int) := by omega
    have h0 : 0 ≤ (i : Int) := by omega
    have hw : ¬ (wb (bt s i) = true) := by have : wb (bt s i) = false := hn i (Nat.le_refl _) (by omega); rw [this]; simp
    simp only [if_pos h1, if_pos h0, wordByte_eq, Option.bind_some, if_neg hw, up i (by omega)]
    exact parts_l2 s hs d (i + 1) (by omega) (fun j h2 h3 => hn j (by omega) h3)
theorem rd_at (l : List Sp) (n : Nat) (x : Sp) (h : l[n]? = some x) : rd_T42 l (n : Int) = x := by
  unfold rd_T42
  simp [List.getD_eq_getElem?_getD, h]
theorem parts_l1 (s : ByteArray) (hs : s.size ≤ 1099511627776) (L : List Sp) (n a b : Nat) (hx : L[n]? = some ⟨(a : Int), (b : Int)⟩) (hn : n < 1099511627777) (hb : b ≤ s.size) (h1 : ∀ j, a ≤ j → j < b → isW s j = true)
    (H : Ev (fun k => codesearchlaw01_TextParts.l0 k s L (b : Int) ((n + 1 : Nat) : Int)) true) : ∀ (d q : Nat), q + d = b → (∀ j, q ≤ j → j < a → isW s j = false) → Ev (fun k => codesearchlaw01_TextParts.l1 k s L (n : Int) (q : Int)) true := by
  have hlen : n < L.length := (List.getElem?_eq_some_iff.1 hx).1
  have z0 : 0 ≤ (n : Int) := by omega
  have z1 : (n : Int) < (L.length : Int) := by omega
  intro d
  induction d with
  | zero =>
    intro q hq hn2
    refine Ev.step (fun k => by rw [codesearchlaw01_TextParts.l1]) ?_
    have h2 : ¬ ((q : Int) < (b : Int)) := by omega
    simp only [if_pos z0, if_pos z1, rd_at L n _ hx, if_neg h2, up n (by omega)]
    exact H
  | succ d ih =>
    intro q hq hn2
    refine Ev.step (fun k => by rw [codesearchlaw01_TextParts.l1]) ?_
    have h2 : (q : Int) < (b : Int) := by omega
    have h3 : 0 ≤ (q : Int) := by omega
    have h4 : (q : Int) < (s.size : Int) := by omega
    have hw : (wb (bt s q) != decide ((q : Int) ≥ (a : Int))) = false := by
      by_cases e : a ≤ q
      · have e1 : wb (bt s q) = true := h1 q e (by omega)
        have e2 : (q : Int) ≥ (a : Int) := by omega
        rw [e1]; simp [e2]
      · have e1 : wb (bt s q) = false := hn2 q (Nat.le_refl _) (by omega)
        have e2 : ¬ ((q : Int) ≥ (a : Int)) := by omega
        rw [e1]; simp [e2]
    simp only [if_pos z0, if_pos z1, rd_at L n _ hx, if_pos h2, if_pos h3, if_pos h4, wordByte_eq, Option.bind_some, hw, Bool.false_eq_true, if_false, up q (by omega)]
    exact ih (q + 1) (by omega) (fun j h5 h6 => hn2 j (by omega) h6)
theorem parts_l0 (s : ByteArray) (hs : s.size ≤ 1099511627776) (L : List Sp) (hL : L.length ≤ 1099511627776) : ∀ (r : List Sp) (done : List Sp) (p : Nat), L = done ++ r → p ≤ s.size → Cov s (done.isEmpty) p r → Ev (fun k => codesearchlaw01_TextParts.l0 k s L (p : Int) (done.length : Int)) true
  | [], done, p, hd, hp, hc => by
    refine Ev.step (fun k => by rw [codesearchlaw01_TextParts.l0]) ?_
    have h1 : ¬ ((done.length : Int) < (L.length : Int)) := by rw [hd]; simp
    simp only [if_neg h1]
    exact parts_l2 s hs (s.size - p) p (by omega) hc
  | x :: r, done, p, hd, hp, hc => by
    obtain ⟨a, b, rfl, c1, c2, c3, c4, c5, c6, c7⟩ := hc
    have hx : L[done.length]? = some ⟨(a : Int), (b : Int)⟩ := by rw [hd]; simp
    have hlen : done.length < L.length := (List.getElem?_eq_some_iff.1 hx).1
    have rest : Ev (fun k => codesearchlaw01_TextParts.j2 k s L (p : Int) (done.length : Int) false) true := by
      refine Ev.step (fun k => by rw [codesearchlaw01_TextParts.j2]) ?_
      simp only [Bool.false_eq_true, if_false]
      refine parts_l1 s hs L done.length a b hx (by omega) c4 c6 ?_ (b - p) p (by omega) c5
      have e : (done ++ [(⟨(a : Int), (b : Int)⟩ : Sp)]).isEmpty = false := by cases done <;> rfl
      have := parts_l0 s hs L hL r (done ++ [⟨(a : Int), (b : Int)⟩]) b (by rw [hd]; simp) c4 (by rw [e]; exact c7)
      simpa using this
    refine Ev.step (fun k => by rw [codesearchlaw01_TextParts.l0]) ?_
    have h1 : (done.length : Int) < (L.length : Int) := by omega
    have h0 : 0 ≤ (done.length : Int) := by omega
    have h2 : ¬ ((a : Int) < (p : Int)) := by omega
    have h3 : ¬ ((b : Int) ≤ (a : Int)) := by omega
    have h4 : decide ((b : Int) > (s.size : Int)) = false := by simp; omega
    simp only [if_pos h1, if_pos h0, rd_at L done.length _ hx, if_neg h2, if_neg h3, h4]
    by_cases hz : (done.length : Int) > 0
    · have hf : done.isEmpty = false := by cases done with | nil => simp at hz | cons _ _ => rfl
      have h5 : ¬ ((a : Int) = (p : Int)) := by have := c2 hf; omega
      simp only [if_pos hz, if_neg h5]
      exact rest
    · simp only [if_neg hz]
      exact rest
theorem TextParts : codesearchlaw01_TextParts.Pure := by
  intro s _
  refine Ev.rounds ?_
  unfold codesearchlaw01_TextParts.f
  refine Ev.bind alive_ev ?_
  simp only [if_true]
  by_cases h : (s.size : Int) > 2100
  · simp only [if_pos h]; exact Ev.now _
  · have hs : s.size ≤ 1099511627776 := by omega
    have hf : (foldS s).size ≤ 1099511627776 := by rw [foldS_size]; exact hs
    have hl := words_len s s.size 0
    simp only [if_neg h, fold_eq s hs, Option.bind_some]
    refine Ev.bind (words_ev s hs) ?_
    have h1 : ((foldS s).size : Int) = (s.size : Int) := by rw [foldS_size]
    simp only [if_pos h1, fold_eq _ hf, Option.bind_some, foldS_twice, if_true]
    refine Ev.bind (words_ev _ hf) ?_
    rw [words_fold]
    refine Ev.bind (spans_same (wordsS s) (by unfold wordsS; omega)) ?_
    refine Ev.step (fun k => by rw [codesearchlaw01_TextParts.j0]) ?_
    simp only [Bool.not_true, Bool.false_eq_true, if_false]
    have := parts_l0 s hs (wordsS s) (by unfold wordsS; omega) (wordsS s) [] 0 rfl (Nat.zero_le _) (cov_words s s.size 0 0 true (by omega) (Nat.le_refl _) (by simp) (.inl rfl) (fun j h1 h2 => by omega))
    simpa using this

end Go.Proofs.Ytkklemjidocngaa.Pure
