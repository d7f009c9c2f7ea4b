/-
  TextExcerpts: for every string of at most 2,100 bytes, every span and every count of lines Excerpt answers as the reference's. No condition beside the given statement's own.
-/
import Derived.Test.YtkklemjidocngaaPurePlaces
import Derived.Test.YtkklemjidocngaaPAllx18
namespace Go.Proofs.Ytkklemjidocngaa.Pure
open Go.RowKit Go.Proofs.Ytkklemjidocngaa.PAll Go.Proofs.YtkklemjidocngaaW.PrintWords Go.Proofs.YtkklemjidocngaaW.PrintLast

theorem xba_ext {a b : ByteArray} (h : a.data.toList = b.data.toList) : a = b := by
  obtain ⟨⟨l⟩⟩ := a
  obtain ⟨⟨m⟩⟩ := b
  simp at h
  rw [h]
theorem xap_data (a b : ByteArray) : (a ++ b).data.toList = a.data.toList ++ b.data.toList := by
  obtain ⟨⟨l⟩⟩ := a
  obtain ⟨⟨m⟩⟩ := b
  rfl
theorem ex_len (n : Nat) : ∀ l : List ByteArray, (∀ x ∈ l, x.size ≤ n) → (exBytes l).length ≤ l.length * (n + 1)
  | [], _ => by simp [exBytes]
  | x :: l, h => by
    have h1 := ex_len n l (fun y hy => h y (List.mem_cons_of_mem _ hy))
    have h2 := h x List.mem_cons_self
    have e : exBytes (x :: l) = x.data.toList ++ [10] ++ exBytes l := rfl
    have h3 : x.data.toList.length = x.size := data_length x
    rw [e, List.length_append, List.length_append, List.length_singleton, h3, List.length_cons, Nat.add_mul, Nat.one_mul]
    omega
theorem lines_size (s : ByteArray) : ∀ x ∈ linesS s, x.size ≤ s.size := by
  intro x hx
  unfold linesS at hx
  obtain ⟨p, _, rfl⟩ := List.mem_map.1 hx
  rw [ByteArray.size_extract]
  omega
theorem last_line (s : ByteArray) (hz : 0 < s.size) : nlc s (s.size - 1) + 1 = (lns s).length := by
  obtain ⟨i, x, hv⟩ := cov_ex s (s.size - 1) (by omega)
  rw [hv.nlc_eq]
  obtain ⟨_, _, g3, _⟩ := all_lines s i x hv.at_
  have hlt := hv.len
  rcases Nat.lt_or_ge (i + 1) (lns s).length with h | h
  · have hy : (lns s)[i + 1]? = some _ := List.getElem?_eq_getElem h
    have e := g3 _ hy
    have hl := line_at s (i + 1) _ hy
    have h1 := hl.le
    have h2 := hv.to_
    rcases hl.fin with ⟨f1, f2⟩ | ⟨f1, f2⟩ <;> omega
  · omega
/-- the line of an offset, or the last one -/
def LI (s : ByteArray) (off : Nat) : Nat := if off < s.size then nlc s off else (lns s).length - 1
theorem LI_lt (s : ByteArray) (hz : 0 < s.size) (off : Nat) : LI s off < (lns s).length := by
  have := last_line s hz
  unfold LI
  split
  · obtain ⟨i, x, hv⟩ := cov_ex s off (by assumption)
    rw [hv.nlc_eq]
    exact hv.len
  · omega
theorem line_ev (s : ByteArray) (hs : s.size ≤ 1099511627776) (hz : 0 < s.size) (off : Nat) : Ev (fun k => text_line.f k s (off : Int)) (LI s off : Int) := by
  unfold text_line.f
  have hn := lns_len s hs
  have hl := last_line s hz
  by_cases h : off < s.size
  · obtain ⟨i, x, hv⟩ := cov_ex s off h
    have hi := hv.len
    refine Ev.bind (at_in s hs hv) ?_
    have e : wrap64 ((i : Int) + 1 - 1) = (LI s off : Int) := by
      rw [wr _ (by omega) (by omega)]
      unfold LI
      rw [if_pos h, hv.nlc_eq]
      omega
    simp only [if_true, e]
    exact Ev.now _
  · refine Ev.bind (at_out s (off : Int) (by omega)) ?_
    simp only [Bool.false_eq_true, if_false, starts_eq s hs, Option.bind_some]
    have e : wrap64 (((stS s).length : Int) - 1) = (LI s off : Int) := by
      rw [stS_len, wr _ (by omega) (by omega)]
      unfold LI
      rw [if_neg h]
      omega
    rw [e]
    exact Ev.now _

/-! ### the reference's loop -/
theorem exR_go (s : ByteArray) (hs : s.size ≤ 2100) (a b : Nat) (m : Int) (hm : 0 ≤ m) (ha : a < (linesS s).length) (hb : b < (linesS s).length) (lo w : Nat) (hlo : (lo : Int) = max ((a : Int) - min m ((linesS s).length : Int)) 0)
    (hw : w = (min ((b : Int) + min m ((linesS s).length : Int)) (((linesS s).length : Int) - 1) + 1 - (lo : Int)).toNat) : ∀ (d i : Nat), i + d = (linesS s).length →
    Ev (fun k => codesearchref01_Excerpt.l0 k m (a : Int) (b : Int) (linesS s) ⟨(exPre (linesS s) lo (min (i - lo) w)).toArray⟩ (i : Int)) ⟨(exPre (linesS s) lo w).toArray⟩
  | 0, i, h => by
    refine Ev.step (fun k => by rw [codesearchref01_Excerpt.l0]) ?_
    have h1 : ¬ ((i : Int) < ((linesS s).length : Int)) := by omega
    simp only [if_neg h1]
    have e : min (i - lo) w = w := by omega
    rw [e]
    exact Ev.now _
  | d + 1, i, h => by
    refine Ev.step (fun k => by rw [codesearchref01_Excerpt.l0]) ?_
    have hn : (linesS s).length ≤ 2101 := by
      have := lns_len s (by omega)
      have h2 : (lns s).length ≤ s.size + 1 := by
        have := lns_length s.data.toList 0 0
        rw [data_length] at this
        exact this
      rw [linesS_len]
      omega
    have h1 : (i : Int) < ((linesS s).length : Int) := by omega
    have rest := exR_go s hs a b m hm ha hb lo w hlo hw d (i + 1) (by omega)
    have i0 : (0 : Int) ≤ (i : Int) := by omega
    have hsz : (exBytes (linesS s)).length ≤ 4416302 := by
      have h2 := ex_len 2101 (linesS s) (fun x hx => Nat.le_trans (lines_size s x hx) (by omega))
      have h3 : (linesS s).length * (2101 + 1) ≤ 2101 * 2102 := Nat.mul_le_mul hn (Nat.le_refl _)
      omega
    have hp : ∀ j, (exPre (linesS s) lo j).length ≤ 4416302 := fun j => Nat.le_trans (exPre_le _ _ _) hsz
    have hx : (rdOf ByteArray.empty (linesS s) (i : Int)) = (linesS s).getD i ByteArray.empty := rfl
    have hxs : ((linesS s).getD i ByteArray.empty).size ≤ 2100 := by
      have hlt : i < (linesS s).length := by omega
      rw [List.getD_eq_getElem?_getD, List.getElem?_eq_getElem hlt]
      exact Nat.le_trans (lines_size s _ (List.getElem_mem hlt)) hs
    have w1 : wrap64 ((a : Int) - (i : Int)) = (a : Int) - i := wr _ (by omega) (by omega)
    have w2 : wrap64 ((i : Int) - (b : Int)) = (i : Int) - b := wr _ (by omega) (by omega)
    have skip : ¬ (lo ≤ i ∧ i < lo + w) → Ev (fun k => codesearchref01_Excerpt.l0 k m (a : Int) (b : Int) (linesS s) ⟨(exPre (linesS s) lo (min (i - lo) w)).toArray⟩ ((i + 1 : Nat) : Int)) ⟨(exPre (linesS s) lo w).toArray⟩ := by
      intro hk
      have e : min (i + 1 - lo) w = min (i - lo) w := by omega
      rw [e] at rest
      exact rest
    have add : (lo ≤ i ∧ i < lo + w) → Ev (fun k => if 0 ≤ (i : Int) then (if (⟨(exPre (linesS s) lo (min (i - lo) w)).toArray⟩ : ByteArray).size + (rdOf ByteArray.empty (linesS s) (i : Int)).size ≤ 9223372036854775807 then (if ((⟨(exPre (linesS s) lo (min (i - lo) w)).toArray⟩ : ByteArray) ++ (rdOf ByteArray.empty (linesS s) (i : Int))).size + 1 ≤ 9223372036854775807 then (codesearchref01_Excerpt.l0 k m (a : Int) (b : Int) (linesS s) (((⟨(exPre (linesS s) lo (min (i - lo) w)).toArray⟩ : ByteArray) ++ (rdOf ByteArray.empty (linesS s) (i : Int))) ++ (⟨#[10]⟩ : ByteArray)) ((i + 1 : Nat) : Int)) else none) else none) else none) ⟨(exPre (linesS s) lo w).toArray⟩ := by
      intro hk
      have e : min (i + 1 - lo) w = (i - lo) + 1 := by omega
      have e' : min (i - lo) w = i - lo := by omega
      rw [e, exPre_succ (linesS s) lo (i - lo) (by omega), show lo + (i - lo) = i by omega] at rest
      have hq : (⟨(exPre (linesS s) lo (i - lo) ++ ((linesS s).getD i ByteArray.empty).data.toList ++ [10]).toArray⟩ : ByteArray) = ((⟨(exPre (linesS s) lo (i - lo)).toArray⟩ : ByteArray) ++ (linesS s).getD i ByteArray.empty) ++ (⟨#[10]⟩ : ByteArray) := by
        apply xba_ext
        rw [xap_data, xap_data]
      rw [hq] at rest
      have s0 : (⟨(exPre (linesS s) lo (i - lo)).toArray⟩ : ByteArray).size = (exPre (linesS s) lo (i - lo)).length := by
        rw [← data_length]
      have s1 := hp (i - lo)
      have k1 : (⟨(exPre (linesS s) lo (i - lo)).toArray⟩ : ByteArray).size + ((linesS s).getD i ByteArray.empty).size ≤ 9223372036854775807 := by omega
      have k2 : ((⟨(exPre (linesS s) lo (i - lo)).toArray⟩ : ByteArray) ++ (linesS s).getD i ByteArray.empty).size + 1 ≤ 9223372036854775807 := by rw [ByteArray.size_append]; omega
      rw [e', hx]
      simp only [if_pos i0, if_pos k1, if_pos k2]
      exact rest
    simp only [if_pos h1, w1, w2, up i (by omega)]
    by_cases c1 : (i : Int) < (a : Int)
    · by_cases c2 : (a : Int) - i > m
      · simp only [if_pos c1, if_pos c2]
        exact skip (by omega)
      · by_cases c3 : (i : Int) > (b : Int)
        · by_cases c4 : (i : Int) - b > m
          · simp only [if_pos c1, if_neg c2, if_pos c3, if_pos c4]
            exact skip (by omega)
          · simp only [if_pos c1, if_neg c2, if_pos c3, if_neg c4]
            exact add (by omega)
        · simp only [if_pos c1, if_neg c2, if_neg c3]
          exact add (by omega)
    · by_cases c3 : (i : Int) > (b : Int)
      · by_cases c4 : (i : Int) - b > m
        · simp only [if_neg c1, if_pos c3, if_pos c4]
          exact skip (by omega)
        · simp only [if_neg c1, if_pos c3, if_neg c4]
          exact add (by omega)
      · simp only [if_neg c1, if_neg c3]
        exact add (by omega)
/-- the reference from j3 on -/
theorem exR_j3 (s : ByteArray) (hs : s.size ≤ 2100) (hz : 0 < s.size) (m : Int) (hm : 0 ≤ m) (p q : Nat) (hp : p < s.size) (hq : q < s.size) :
    Ev (fun k => codesearchref01_Excerpt.j3 k s m (p : Int) (q : Int)) ⟨(exText (linesS s) (max ((nlc s p : Int) - min m ((linesS s).length : Int)) 0) (min ((nlc s q : Int) + min m ((linesS s).length : Int)) (((linesS s).length : Int) - 1))).toArray⟩ := by
  refine Ev.step (fun k => by rw [codesearchref01_Excerpt.j3]) ?_
  refine Ev.bind (lineR_ev s (by omega) p (by omega)) ?_
  refine Ev.bind (lineR_ev s (by omega) q (by omega)) ?_
  refine Ev.bind (linesR_ev s (by omega)) ?_
  have ha : nlc s p < (linesS s).length := by
    have := LI_lt s hz p
    unfold LI at this
    rw [if_pos hp] at this
    rw [linesS_len]
    exact this
  have hb : nlc s q < (linesS s).length := by
    have := LI_lt s hz q
    unfold LI at this
    rw [if_pos hq] at this
    rw [linesS_len]
    exact this
  have h := exR_go s hs (nlc s p) (nlc s q) m hm ha hb (max ((nlc s p : Int) - min m ((linesS s).length : Int)) 0).toNat _ (by omega) rfl (linesS s).length 0 (by omega)
  have e : (⟨(exPre (linesS s) (max ((nlc s p : Int) - min m ((linesS s).length : Int)) 0).toNat (min (0 - (max ((nlc s p : Int) - min m ((linesS s).length : Int)) 0).toNat) (min ((nlc s q : Int) + min m ((linesS s).length : Int)) (((linesS s).length : Int) - 1) + 1 - ((max ((nlc s p : Int) - min m ((linesS s).length : Int)) 0).toNat : Int)).toNat)).toArray⟩ : ByteArray) = ⟨#[]⟩ := by
    rw [Nat.zero_sub, Nat.zero_min]
    rfl
  rw [e] at h
  have e2 : exText (linesS s) (max ((nlc s p : Int) - min m ((linesS s).length : Int)) 0) (min ((nlc s q : Int) + min m ((linesS s).length : Int)) (((linesS s).length : Int) - 1)) = exPre (linesS s) (max ((nlc s p : Int) - min m ((linesS s).length : Int)) 0).toNat (min ((nlc s q : Int) + min m ((linesS s).length : Int)) (((linesS s).length : Int) - 1) + 1 - ((max ((nlc s p : Int) - min m ((linesS s).length : Int)) 0).toNat : Int)).toNat := by
    unfold exText exPre
    congr 3
    omega
  rw [e2]
  exact h
theorem LI_clamp (s : ByteArray) (hz : 0 < s.size) (off : Nat) (ho : off ≤ s.size) : LI s off = nlc s (min off (s.size - 1)) := by
  have := last_line s hz
  unfold LI
  split
  · rw [show min off (s.size - 1) = off by omega]
  · rw [show min off (s.size - 1) = s.size - 1 by omega]
    omega
/-- the reference from j1 on -/
theorem exR_j1 (s : ByteArray) (hs : s.size ≤ 2100) (hz : 0 < s.size) (m : Int) (hm : 0 ≤ m) (p q : Nat) (hp : p ≤ s.size) (hq : q ≤ s.size) :
    Ev (fun k => codesearchref01_Excerpt.j1 k s m (p : Int) (q : Int)) ⟨(exText (linesS s) (max ((LI s p : Int) - min m ((linesS s).length : Int)) 0) (min ((LI s q : Int) + min m ((linesS s).length : Int)) (((linesS s).length : Int) - 1))).toArray⟩ := by
  rw [LI_clamp s hz p hp, LI_clamp s hz q hq]
  have h := exR_j3 s hs hz m hm (min p (s.size - 1)) (min q (s.size - 1)) (by omega) (by omega)
  have w : wrap64 ((s.size : Int) - 1) = ((s.size - 1 : Nat) : Int) := by rw [wr _ (by omega) (by omega)]; omega
  refine Ev.step (fun k => by rw [codesearchref01_Excerpt.j1]) ?_
  have j2 : ∀ p' : Nat, p' = min p (s.size - 1) → Ev (fun k => codesearchref01_Excerpt.j2 k s m (p' : Int) (q : Int)) ⟨(exText (linesS s) (max ((nlc s (min p (s.size - 1)) : Int) - min m ((linesS s).length : Int)) 0) (min ((nlc s (min q (s.size - 1)) : Int) + min m ((linesS s).length : Int)) (((linesS s).length : Int) - 1))).toArray⟩ := by
    intro p' hp'
    subst hp'
    refine Ev.step (fun k => by rw [codesearchref01_Excerpt.j2]) ?_
    by_cases c : (q : Int) ≥ (s.size : Int)
    · simp only [if_pos c, w]
      have e : min q (s.size - 1) = s.size - 1 := by omega
      rw [e] at h ⊢
      exact h
    · simp only [if_neg c]
      have e : min q (s.size - 1) = q := by omega
      rw [e] at h ⊢
      exact h
  by_cases c : (p : Int) ≥ (s.size : Int)
  · simp only [if_pos c, w]
    exact j2 (s.size - 1) (by omega)
  · simp only [if_neg c]
    exact j2 p (by omega)
theorem ex_bad (s : ByteArray) (p q m : Int) (h : p < 0 ∨ q < p ∨ (s.size : Int) < q ∨ m < 0 ∨ s.size = 0) : Ev (fun k => codesearchref01_Excerpt.f k s p q m) (⟨#[]⟩ : ByteArray) := by
  have j0 : Ev (fun k => codesearchref01_Excerpt.j0 k s m true p q) (⟨#[]⟩ : ByteArray) := by
    refine Ev.step (fun k => by rw [codesearchref01_Excerpt.j0]) ?_
    simp only [if_true]
    exact Ev.now _
  unfold codesearchref01_Excerpt.f
  by_cases c1 : p < 0
  · simp only [if_pos c1]; exact j0
  by_cases c2 : p > q
  · simp only [if_neg c1, if_pos c2]; exact j0
  by_cases c3 : q > (s.size : Int)
  · simp only [if_neg c1, if_neg c2, if_pos c3]; exact j0
  by_cases c4 : m < 0
  · simp only [if_neg c1, if_neg c2, if_neg c3, if_pos c4]; exact j0
  have c5 : ((s.size : Int) == 0) = true := by
    have : (s.size : Int) = 0 := by omega
    rw [this]
    rfl
  simp only [if_neg c1, if_neg c2, if_neg c3, if_neg c4, c5]
  exact j0
theorem ex_good (s : ByteArray) (hs : s.size ≤ 2100) (p q m : Int) (h : ¬ (p < 0 ∨ q < p ∨ (s.size : Int) < q ∨ m < 0 ∨ s.size = 0)) :
    ∃ v, Ev (fun k => text_Excerpt.f k s p q m) v ∧ Ev (fun k => codesearchref01_Excerpt.f k s p q m) v := by
  have hz : 0 < s.size := by omega
  obtain ⟨a, rfl⟩ : ∃ a : Nat, p = (a : Int) := ⟨p.toNat, by omega⟩
  obtain ⟨b, rfl⟩ : ∃ b : Nat, q = (b : Int) := ⟨q.toNat, by omega⟩
  have hn : (linesS s).length ≤ 2101 := by
    have h2 : (lns s).length ≤ s.size + 1 := by
      have := lns_length s.data.toList 0 0
      rw [data_length] at this
      exact this
    rw [linesS_len]
    omega
  obtain ⟨c, hc, hcl⟩ : ∃ c : Nat, c = (if (a : Int) < (b : Int) then b - 1 else a) ∧ c ≤ s.size := ⟨_, rfl, by split <;> omega⟩
  refine ⟨⟨(exText (linesS s) (max ((LI s a : Int) - min m ((linesS s).length : Int)) 0) (min ((LI s c : Int) + min m ((linesS s).length : Int)) (((linesS s).length : Int) - 1))).toArray⟩, ?_, ?_⟩
  · unfold text_Excerpt.f
    simp only [if_neg h, lines_eq s (by omega), Option.bind_some]
    refine Ev.bind (line_ev s (by omega) hz a) ?_
    have hto : Ev (fun k => if (a : Int) < (b : Int) then text_line.f k s ((b : Int) - 1) else some (LI s a : Int)) (LI s c : Int) := by
      by_cases hab : (a : Int) < (b : Int)
      · rw [if_pos hab] at hc
        simp only [if_pos hab]
        have e : (b : Int) - 1 = (c : Int) := by omega
        rw [e]
        exact line_ev s (by omega) hz c
      · rw [if_neg hab] at hc
        simp only [if_neg hab]
        rw [hc]
        exact Ev.now _
    refine Ev.bind hto ?_
    have l1 := LI_lt s hz a
    have l2 := LI_lt s hz c
    rw [← linesS_len] at l1 l2
    have hsz : (exBytes (linesS s)).length ≤ 4416302 := by
      have h2 := ex_len 2101 (linesS s) (fun x hx => Nat.le_trans (lines_size s x hx) (by omega))
      have h3 : (linesS s).length * (2101 + 1) ≤ 2101 * 2102 := Nat.mul_le_mul hn (Nat.le_refl _)
      omega
    unfold exMid
    rw [if_pos ⟨by omega, by omega, by omega, by omega, by omega, by omega, by omega⟩]
    exact Ev.now _
  · unfold codesearchref01_Excerpt.f
    have c1 : ¬ ((a : Int) < 0) := by omega
    have c2 : ¬ ((a : Int) > (b : Int)) := by omega
    have c3 : ¬ ((b : Int) > (s.size : Int)) := by omega
    have c4 : ¬ (m < 0) := by omega
    have c5 : ((s.size : Int) == 0) = false := by
      rw [beq_eq_false_iff_ne]
      omega
    simp only [if_neg c1, if_neg c2, if_neg c3, if_neg c4, c5]
    refine Ev.step (fun k => by rw [codesearchref01_Excerpt.j0]) ?_
    simp only [Bool.false_eq_true, if_false]
    have g := exR_j1 s hs hz m (by omega) a c (by omega) hcl
    by_cases hab : (a : Int) = (b : Int)
    · simp only [if_pos hab]
      rw [if_neg (by omega)] at hc
      rw [hc] at g ⊢
      exact g
    · have hlt : (a : Int) < (b : Int) := by omega
      rw [if_pos hlt] at hc
      have w : wrap64 ((b : Int) - 1) = (c : Int) := by rw [wr _ (by omega) (by omega)]; omega
      simp only [if_neg hab, w]
      exact g
theorem TextExcerpts : ∀ (a0 : ByteArray) (a1 : S42) (a2 : Int), a0.size ≤ 140737488351232 → ((Lit.int .i64 a1.f0).wf = true ∧ (Lit.int .i64 a1.f1).wf = true) → (Lit.int .i64 a2).wf = true → ∃ k, codesearchlaw01_TextExcerpts.f k a0 a1.f0 a1.f1 a2 = some true := by
  intro s ⟨p, q⟩ m _ _ _
  refine Ev.rounds (g := fun k => codesearchlaw01_TextExcerpts.f k s p q m) ?_
  unfold codesearchlaw01_TextExcerpts.f
  refine Ev.bind alive_ev ?_
  simp only [if_true]
  by_cases h : (s.size : Int) > 2100
  · simp only [if_pos h]; exact Ev.now _
  · simp only [if_neg h]
    have both : ∃ v, Ev (fun k => text_Excerpt.f k s p q m) v ∧ Ev (fun k => codesearchref01_Excerpt.f k s p q m) v := by
      by_cases hb : p < 0 ∨ q < p ∨ (s.size : Int) < q ∨ m < 0 ∨ s.size = 0
      · refine ⟨_, ?_, ex_bad s p q m hb⟩
        unfold text_Excerpt.f
        simp only [if_pos hb]
        exact Ev.now _
      · exact ex_good s (by omega) p q m hb
    obtain ⟨v, v1, v2⟩ := both
    refine Ev.bind v1 ?_
    refine Ev.bind v2 ?_
    simp only [beq_self_eq_true]
    exact Ev.now _

end Go.Proofs.Ytkklemjidocngaa.Pure
