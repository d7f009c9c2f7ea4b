/-
  TextPlaces: for every string of at most 2,100 bytes, every offset and every position At and Off answer as the reference's. No condition beside the given statement's own.
-/
import Derived.Test.YtkklemjidocngaaPurePlaces
namespace Go.Proofs.Ytkklemjidocngaa.Pure
open Go.RowKit Go.Proofs.Ytkklemjidocngaa.PAll Go.Proofs.YtkklemjidocngaaW.PrintWords Go.Proofs.YtkklemjidocngaaW.PrintLast

theorem TextPlaces : ∀ (a0 : ByteArray) (a1 : Int) (a2 : (Int × Int)), a0.size ≤ 140737488351232 → (Lit.int .i64 a1).wf = true → ((Lit.int .i64 a2.1).wf = true ∧ (Lit.int .i64 a2.2).wf = true) → ∃ k, codesearchlaw01_TextPlaces.f k a0 a1 a2.1 a2.2 = some true := by
  intro s off ⟨line, col⟩ _ _ _
  refine Ev.rounds (g := fun k => codesearchlaw01_TextPlaces.f k s off line col) ?_
  unfold codesearchlaw01_TextPlaces.f
  refine Ev.bind alive_ev ?_
  simp only [if_true]
  by_cases h : (s.size : Int) > 2100
  · simp only [if_pos h]; exact Ev.now _
  · have hs : s.size ≤ 1099511627776 := by omega
    simp only [if_neg h]
    have both : ∃ v, Ev (fun k => text_At.f k s off) v ∧ Ev (fun k => codesearchref01_At.f k s off) v := by
      by_cases hc : 0 ≤ off ∧ off < (s.size : Int)
      · obtain ⟨o, rfl⟩ : ∃ o : Nat, off = (o : Int) := ⟨off.toNat, by omega⟩
        obtain ⟨i, x, hv⟩ := cov_ex s o (by omega)
        exact ⟨_, at_in s hs hv, atR_in s hs hv⟩
      · exact ⟨_, at_out s off hc, atR_out s off hc⟩
    obtain ⟨v, v1, v2⟩ := both
    refine Ev.bind v1 ?_
    refine Ev.bind v2 ?_
    refine Ev.bind (off_ev s hs line col) ?_
    refine Ev.bind (offR_ev s hs line col) ?_
    simp only [beq_self_eq_true, Bool.and_self, if_true]
    exact Ev.now _

end Go.Proofs.Ytkklemjidocngaa.Pure
