/-
  TextInverse: for every string of at most 2,100 bytes each byte's place leads back to it, places rise, and each place that has a byte is that byte's place. No condition beside the given statement's own.
-/
import Derived.Test.YtkklemjidocngaaPurePlaces
import Derived.Test.YtkklemjidocngaaPAllx18
namespace Go.Proofs.Ytkklemjidocngaa.Pure
open Go.RowKit Go.Proofs.Ytkklemjidocngaa.PAll Go.Proofs.YtkklemjidocngaaW.PrintWords Go.Proofs.YtkklemjidocngaaW.PrintLast

/-- an offset's place leads back -/
theorem offS_at (s : ByteArray) {i : Nat} {x : Nat × Nat} {off : Nat} (h : Cov s i x off) : offS s ((i : Int) + 1) ((off : Int) - x.1 + 1) = ((off : Int), true) := by
  have h1 := h.from_
  have h2 := h.to_
  rw [offS_in s i x h.at_, if_neg (by omega), if_neg (by omega)]
  simp only [Prod.mk.injEq, and_true]
  omega
/-- the place before: none, or an earlier byte's -/
def Before (s : ByteArray) (off : Nat) (pl pc : Int) : Prop := (off = 0 ∧ pl = 0 ∧ pc = 0) ∨ ∃ o i x, off = o + 1 ∧ Cov s i x o ∧ pl = (i : Int) + 1 ∧ pc = (o : Int) - x.1 + 1
theorem inv_end (s : ByteArray) (hs : s.size ≤ 1099511627776) (line col : Int) : Ev (fun k => (text_Off.f k s line col).bind fun bt274 => (if bt274.2 = true then ((text_At.f k s bt274.1).bind fun bt276 => (if bt276.2.2 = true then (some (bt276.1 == line && (bt276.2.1 == col))) else (some false))) else (some (bt274.1 == 0)))) true := by
  refine Ev.bind (off_ev s hs line col) ?_
  by_cases h1 : line < 1
  · rw [offS_low s line col h1]
    simp only [Bool.false_eq_true, if_false]
    exact Ev.now _
  by_cases h2 : line > ((lns s).length : Int)
  · rw [offS_high s line col h2]
    simp only [Bool.false_eq_true, if_false]
    exact Ev.now _
  obtain ⟨i, rfl⟩ : ∃ i : Nat, line = (i : Int) + 1 := ⟨(line - 1).toNat, by omega⟩
  have hi : i < (lns s).length := by omega
  obtain ⟨x, hx⟩ : ∃ x, (lns s)[i]? = some x := ⟨_, List.getElem?_eq_getElem hi⟩
  rw [offS_in s i x hx]
  by_cases c1 : col < 1
  · simp only [if_pos c1, Bool.false_eq_true, if_false]; exact Ev.now _
  by_cases c2 : col > (lend s x.2 : Int) - x.1
  · simp only [if_neg c1, if_pos c2, Bool.false_eq_true, if_false]; exact Ev.now _
  simp only [if_neg c1, if_neg c2, if_true]
  obtain ⟨o, ho⟩ : ∃ o : Nat, (x.1 : Int) + col - 1 = (o : Int) := ⟨((x.1 : Int) + col - 1).toNat, by omega⟩
  have hv : Cov s i x o := ⟨hx, by omega, by omega⟩
  rw [ho]
  refine Ev.bind (at_in s hs hv) ?_
  have e : (o : Int) - x.1 + 1 = col := by omega
  simp only [if_true, e, beq_self_eq_true, Bool.and_self]
  exact Ev.now _
theorem inv_go (s : ByteArray) (hs : s.size ≤ 1099511627776) (line col : Int) : ∀ (d off : Nat) (pl pc : Int), off + d = s.size → Before s off pl pc → Ev (fun k => codesearchlaw01_TextInverse.l0 k s (off : Int) line col pl pc) true
  | 0, off, pl, pc, h, hb => by
    refine Ev.step (fun k => by rw [codesearchlaw01_TextInverse.l0]) ?_
    have h1 : ¬ ((off : Int) < (s.size : Int)) := by omega
    simp only [if_neg h1]
    exact inv_end s hs line col
  | d + 1, off, pl, pc, h, hb => by
    refine Ev.step (fun k => by rw [codesearchlaw01_TextInverse.l0]) ?_
    have h1 : (off : Int) < (s.size : Int) := by omega
    obtain ⟨i, x, hv⟩ := cov_ex s off (by omega)
    simp only [if_pos h1]
    refine Ev.bind (at_in s hs hv) ?_
    refine Ev.bind (off_ev s hs _ _) ?_
    rw [offS_at s hv]
    simp only [if_true, up off (by omega)]
    have rest := inv_go s hs line col d (off + 1) ((i : Int) + 1) ((off : Int) - x.1 + 1) (by omega) (.inr ⟨off, i, x, rfl, hv, rfl, rfl⟩)
    have hf := hv.from_
    have key : ¬ ((i : Int) + 1 < pl) ∧ ((i : Int) + 1 = pl → ¬ ((off : Int) - x.1 + 1 ≤ pc)) := by
      rcases hb with ⟨_, rfl, rfl⟩ | ⟨o, j, y, e, hw, rfl, rfl⟩
      · exact ⟨by omega, fun _ => by omega⟩
      · have e1 := hv.nlc_eq
        have e2 := hw.nlc_eq
        subst e
        rw [nlc_succ] at e1
        refine ⟨by omega, fun e3 => ?_⟩
        have e4 : i = j := by omega
        subst e4
        have e5 : x = y := Option.some.inj (hv.at_.symm.trans hw.at_)
        subst e5
        omega
    by_cases k1 : (i : Int) + 1 = pl
    · simp only [if_neg key.1, if_pos k1, if_neg (key.2 k1)]
      exact rest
    · simp only [if_neg key.1, if_neg k1]
      exact rest
theorem TextInverse : ∀ (a0 : ByteArray) (a1 : (Int × Int)), a0.size ≤ 140737488351232 → ((Lit.int .i64 a1.1).wf = true ∧ (Lit.int .i64 a1.2).wf = true) → ∃ k, codesearchlaw01_TextInverse.f k a0 a1.1 a1.2 = some true := by
  intro s ⟨line, col⟩ _ _
  refine Ev.rounds (g := fun k => codesearchlaw01_TextInverse.f k s line col) ?_
  unfold codesearchlaw01_TextInverse.f
  refine Ev.bind alive_ev ?_
  simp only [if_true]
  by_cases h : (s.size : Int) > 2100
  · simp only [if_pos h]; exact Ev.now _
  · simp only [if_neg h]
    exact inv_go s (by omega) line col s.size 0 0 0 (by omega) (.inl ⟨rfl, rfl, rfl⟩)

end Go.Proofs.Ytkklemjidocngaa.Pure
