/-
  regexec: the law Apart.
-/
import Derived.Test.YtpdamhhaepcffaaMD
set_option linter.unusedVariables false
set_option linter.unusedSimpArgs false
set_option maxHeartbeats 8000000
set_option maxRecDepth 100000
namespace Go.Proofs.Ytpdamhhaepcffaa.AE
open Go
theorem all_at (r : Rx) (s : ByteArray) : ∀ (n m i : Nat) (p : Nat × Nat), (allF r s n m)[i]? = some p → rightE r = 0 ∧ m ≤ p.1 ∧ p.1 < s.size + 1 ∧ p.2 < s.size + 1 ∧ r.R s p.1 p.2 ∧ p.1 ≤ p.2
  | 0, m, i, p, h => by simp [allF] at h
  | n + 1, m, i, p, h => by
    unfold allF at h
    cases hf : findO r s m with
    | none => rw [hf] at h; simp at h
    | some q =>
      rw [hf] at h
      obtain ⟨a0, a1, a2, a3, a4, _, _⟩ := find_some (i := q.1) (j := q.2) hf
      have hq := (Rx.wf s r q.1 q.2 a2 a4).1
      cases i with
      | zero =>
        simp at h
        subst h
        exact ⟨a0, a1, a2, a3, a4, hq⟩
      | succ i =>
        have ih := all_at r s n _ i p (by simpa using h)
        refine ⟨ih.1, ?_, ih.2.2⟩
        have h1 := ih.2.1
        split at h1 <;> omega
theorem all_next (r : Rx) (s : ByteArray) : ∀ (n m i : Nat) (p q : Nat × Nat), (allF r s n m)[i]? = some q → (allF r s n m)[i + 1]? = some p → q.2 ≤ p.1 ∧ q.1 < p.1
  | 0, m, i, p, q, h, _ => by simp [allF] at h
  | n + 1, m, i, p, q, h, h' => by
    unfold allF at h h'
    cases hf : findO r s m with
    | none => rw [hf] at h; simp at h
    | some q0 =>
      rw [hf] at h h'
      obtain ⟨a0, a1, a2, a3, a4, _, _⟩ := find_some (i := q0.1) (j := q0.2) hf
      have hq := (Rx.wf s r q0.1 q0.2 a2 a4).1
      cases i with
      | zero =>
        simp at h
        subst h
        have h1 := (all_at r s n _ 0 p (by simpa using h')).2.1
        split at h1 <;> omega
      | succ i => exact all_next r s n _ i p q (by simpa using h) (by simpa using h')
theorem all_len (r : Rx) (s : ByteArray) : ∀ n m, (allF r s n m).length ≤ n
  | 0, m => by simp [allF]
  | n + 1, m => by
    unfold allF
    split
    · simp
    · simp; exact all_len r s n _
theorem all_some (r : Rx) (s : ByteArray) : decide ((0 : Int) < ((allL r s).length : Int)) = matchB r s := by
  rw [match_find, allL_eq, allF]
  cases findO r s 0 with
  | none => simp
  | some p => simp
theorem law9 (r : Rx) (s : ByteArray) (hr : Rx.In r) : callP (Lv xp md) 9 [.agg r.cells, .str s] = some [.bool true] := by
  have s10 := f10
  obtain ⟨xl, xi, xt, xd, xf, xc, xz⟩ := cellsF r
  refine fn_v (F := F9) rfl ?_
  rcases Nat.lt_or_ge 60 s.size with h | h
  · have c1 : decide ((60 : Int) < (s.size : Int)) = true := decide_eq_true (by omega)
    exact gD
  have c1 : decide ((60 : Int) < (s.size : Int)) = false := decide_eq_false (by omega)
  have s21 := f21 r s (rt_of hr h)
  have s16 : callP (Lv xp md) 16 [.agg r.cells, .str s] = some [.bool (matchB r s)] := f16 r s (rt_of hr h)
  have s12 := fun i => f12 r s (rt_of hr h) i
  have hlen : (allL r s).length ≤ s.size + 2 := by rw [allL_eq]; exact all_len r s _ _
  have hat : ∀ (i : Nat) (p : Nat × Nat), (allL r s)[i]? = some p → rightE r = 0 ∧ p.1 < s.size + 1 ∧ p.2 < s.size + 1 ∧ r.R s p.1 p.2 := fun i p hp => by
    rw [allL_eq] at hp
    obtain ⟨h0, _, h1, h2, h3, _⟩ := all_at r s _ _ i p hp
    exact ⟨h0, h1, h2, h3⟩
  have hnx : ∀ (i : Nat) (p q : Nat × Nat), (allL r s)[i]? = some q → (allL r s)[i + 1]? = some p → q.2 ≤ p.1 ∧ q.1 < p.1 := fun i p q => by rw [allL_eq]; exact all_next r s _ _ i p q
  have hsm := all_some r s
  generalize matchB r s = mb at *
  generalize allL r s = L at *
  have b1 := sp_len L
  have b2 := sp_at L
  rcases rdX_cases 32 2 (sp L) with ⟨h1, h2⟩ | ⟨h1, h2⟩
  · rw [h2] at s21
    have hL : L = [] := by cases L with | nil => rfl | cons a q => simp [sp] at h1
    subst hL
    have c0 : decide (((0 : Nat) : Int) < ((0 : Nat) : Int)) = false := by decide
    have hm : mb = false := by rw [← hsm]; rfl
    subst hm
    have c3 : decide ((0 : Int) < ((0 : Nat) : Int)) = false := by decide
    clear h1 h2 hlen hat hnx hsm b1 b2
    refine gK ?_
    refine rn_loop (1) (fun j st => st.e 1 = .str s ∧ st.e 2 = .ptr 0 0 0 ∧ st.e 5 = .nls ∧ st.e 6 = .int .i64 (0 : Nat) ∧ st.h 0 = .var r.cells true ∧ 80 ≤ st.k) (j := 0) ⟨?_, ?_, ?_, ?_, ?_, ?_⟩ (Nat.zero_le _) ?_
    all_goals first | exact eA | exact eB | exact eO | exact eC | exact eD | skip
    rintro j ⟨e, h, k⟩ hj ⟨i1, i2, i5, i6, b0, ik⟩
    dsimp only at i1 i2 i5 i6 b0 ik
    have n1 : ∀ c, c < 80 → (c = k) = False := fun c hc => by simp; omega
    have n2 : ∀ c, c < 80 → (k = c) = False := fun c hc => by simp; omega
    exact gD
  · rw [h2] at s21
    clear h1 h2
    refine gK ?_
    refine rn_loop (L.length) (fun j st => st.e 1 = .str s ∧ st.e 2 = .ptr 0 0 0 ∧ st.e 5 = .osl 72 ∧ st.e 6 = .int .i64 j ∧ st.h 0 = .var r.cells true ∧ st.h 72 = .row 32 2 (sp L) true ∧ 80 ≤ st.k) (j := 0) ⟨?_, ?_, ?_, ?_, ?_, ?_, ?_⟩ (Nat.zero_le _) ?_
    all_goals first | exact eA | exact eB | exact eO | exact eC | exact eD | skip
    rintro j ⟨e, h, k⟩ hj ⟨i1, i2, i5, i6, b0, b72, ik⟩
    dsimp only at i1 i2 i5 i6 b0 b72 ik
    have n1 : ∀ c, c < 80 → (c = k) = False := fun c hc => by simp; omega
    have n2 : ∀ c, c < 80 → (k = c) = False := fun c hc => by simp; omega
    rcases nextC hj with ⟨hlt, c1⟩ | ⟨rfl, c1⟩
    · obtain ⟨p, hp⟩ := at_lt hlt
      obtain ⟨h0, e1, e2, e3⟩ := hat j p hp
      have w1 := inc64 j (by omega)
      have s12p := s12 p.1
      have hmem : (p.2 : Int) ∈ endsL r s p.1 := by
        rw [ends_eq h0 (by omega)]
        exact mem_onL.2 ⟨p.2, rfl, e2, (on_im1 (by omega)).2 ⟨e2, e3⟩⟩
      have hel := endsL_len r s p.1
      have s25 := f25 (endsL r s p.1) p.2 (by omega)
      have hany : ((endsL r s p.1).any fun y => decide (y = (p.2 : Int))) = true := List.any_eq_true.2 ⟨_, hmem, by simp⟩
      rw [hany] at s25
      rw [rdX_ne (bi_ne (List.ne_nil_of_mem hmem))] at s12p
      have hcases : j = 0 ∨ ∃ i q, j = i + 1 ∧ L[i]? = some q ∧ q.2 ≤ p.1 ∧ q.1 < p.1 := by
        cases j with
        | zero => exact .inl rfl
        | succ i =>
          obtain ⟨q, hq⟩ := at_lt (show i < L.length by omega)
          exact .inr ⟨i, q, rfl, hq, hnx i p q hq hp⟩
      clear hat hnx s12 hsm hmem hel hany h0 e1 e2 e3
      rcases hcases with rfl | ⟨i, q, rfl, hq, d1, d2⟩
      · have c4 : decide ((0 : Int) < ((0 : Nat) : Int)) = false := by decide
        refine gK ?_
        refine ⟨by omega, ?_, ?_, ?_, ?_, ?_, ?_, ?_⟩
        all_goals first | exact eC | exact eO | exact eD | skip
      · have c4 : decide ((0 : Int) < ((i + 1 : Nat) : Int)) = true := decide_eq_true (by omega)
        have c5 : decide ((p.1 : Int) < (q.2 : Int)) = false := decide_eq_false (by omega)
        have c6 : ((p.1 : Int) == (q.1 : Int)) = false := by
          cases hb : ((p.1 : Int) == (q.1 : Int)) with
          | false => rfl
          | true => have := eq_of_beq hb; omega
        have w2 : IntKind.i64.wrap (((i + 1 : Nat) : Int) - 1) = (i : Int) := by rw [wrapN (by omega) (by omega)]; omega
        have hil : i < L.length := by omega
        have hb0 : ∀ b : Bool, (false && b) = false := fun b => rfl
        clear d1 d2
        refine gK ?_
        refine ⟨by omega, ?_, ?_, ?_, ?_, ?_, ?_, ?_⟩
        all_goals first | exact eC | exact eO | exact eD | skip
    · clear hat hnx s12
      exact gD
end Go.Proofs.Ytpdamhhaepcffaa.AE
