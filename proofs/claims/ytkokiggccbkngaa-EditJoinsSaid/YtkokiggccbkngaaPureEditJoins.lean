/-
  EditJoins: Join of package edit answers as the reference's, for all lists of at most 200 edits and every number. No condition beside the given statement's own.
-/
import Derived.Test.YtkokiggccbkngaaPureJoin
import Derived.Test.YtkokiggccbkngaaPureMove
import Derived.Test.YtkokiggccbkngaaPureEditApplies
import Derived.Test.YtkokiggccbkngaaPAllx13
namespace Go.Proofs.Ytkokiggccbkngaa.Pure
open Go.RowKit Go.Proofs.Ytkokiggccbkngaa.PAll Go.Proofs.YtkokiggccbkngaaW.PrintWords Go.Proofs.YtkokiggccbkngaaW.PrintLast
theorem before_eq (x y : S40) : codesearchref21_before.f x.f0 x.f1 x.f2 y.f0 y.f1 y.f2 = some (decide (ltE x y)) := by
  unfold codesearchref21_before.f ltE
  rw [bless_eq]
  by_cases h0 : x.f0 = y.f0
  · rw [if_pos h0]
    by_cases h1 : x.f1 = y.f1
    · rw [if_pos h1]
      refine congrArg some (decide_eq_decide.2 ⟨fun h => .inr ⟨h0, .inr ⟨h1, h⟩⟩, ?_⟩)
      rintro (h | ⟨_, h | ⟨_, h⟩⟩)
      · omega
      · omega
      · exact h
    · rw [if_neg h1]
      refine congrArg some (decide_eq_decide.2 ⟨fun h => .inr ⟨h0, .inl h⟩, ?_⟩)
      rintro (h | ⟨_, h | ⟨h, _⟩⟩)
      · omega
      · exact h
      · exact absurd h h1
  · rw [if_neg h0]
    refine congrArg some (decide_eq_decide.2 ⟨fun h => .inl h, ?_⟩)
    rintro (h | ⟨h, _⟩)
    · exact h
    · exact absurd h h0
def insG (x : S40) : List S40 → List S40
  | [] => [x]
  | y :: r => if ltE x y then x :: y :: r else y :: insG x r
theorem insG_len (x : S40) : ∀ l : List S40, (insG x l).length = l.length + 1
  | [] => rfl
  | y :: r => by
    rw [insG]
    split
    · rfl
    · rw [List.length_cons, insG_len x r, List.length_cons]
theorem insG_mem (x : S40) : ∀ (l : List S40) (z : S40), z ∈ insG x l ↔ z = x ∨ z ∈ l
  | [], z => by simp [insG]
  | y :: r, z => by
    rw [insG]
    split
    · simp
    · rw [List.mem_cons, insG_mem x r, List.mem_cons]
      constructor
      · rintro (h | h | h)
        · exact .inr (.inl h)
        · exact .inl h
        · exact .inr (.inr h)
      · rintro (h | h | h)
        · exact .inr (.inl h)
        · exact .inl h
        · exact .inr (.inr h)
theorem insG_ok (x : S40) : ∀ (l : List S40), x ∉ l → l.Pairwise ltE → (insG x l).Pairwise ltE
  | [], _, _ => List.pairwise_singleton _ _
  | y :: r, hx, h => by
    obtain ⟨h1, h2⟩ := List.pairwise_cons.1 h
    rw [insG]
    by_cases c : ltE x y
    · rw [if_pos c]
      exact List.pairwise_cons.2 ⟨fun z hz => by
        rcases List.mem_cons.1 hz with rfl | hz
        · exact c
        · exact ltE_trans c (h1 z hz), h⟩
    · rw [if_neg c]
      have hyx : ltE y x := le_lt c (fun e => hx (e ▸ List.mem_cons_self))
      refine List.pairwise_cons.2 ⟨fun z hz => ?_, insG_ok x r (fun hm => hx (List.mem_cons_of_mem _ hm)) h2⟩
      rcases (insG_mem x r z).1 hz with rfl | hz
      · exact hyx
      · exact h1 z hz
theorem ins_done (x : S40) (l : List S40) (hl : l.length ≤ 1000) : ∀ (d i : Nat) (acc : List S40), i + d = l.length → acc.length = i + 1 → Ev (fun k => codesearchref21_insert.l1 k l acc true (i : Int) x.f0 x.f1 x.f2) (acc ++ l.drop i)
  | 0, i, acc, h, ha => by
    refine Ev.step (fun k => by rw [codesearchref21_insert.l1]) ?_
    have h1 : ¬ ((i : Int) < (l.length : Int)) := by omega
    rw [List.drop_of_length_le (by omega), List.append_nil]
    simp only [if_neg h1, if_true]
    exact Ev.now _
  | d + 1, i, acc, h, ha => by
    refine Ev.step (fun k => by rw [codesearchref21_insert.l1]) ?_
    have hi : i < l.length := by omega
    have h1 : (i : Int) < (l.length : Int) := by omega
    have h2 : (0 : Int) ≤ (i : Int) := by omega
    have h3 : acc.length < 4398046511104 := by omega
    have ih := ins_done x l hl d (i + 1) (acc ++ [l[i]]) (by omega) (by simp [ha])
    rw [List.append_assoc, List.singleton_append] at ih
    rw [List.drop_eq_getElem_cons hi]
    simp only [if_pos h1, if_true, if_pos h2, if_pos h3, rd_at l i hi, up i (by omega)]
    exact ih
theorem ins_open (x : S40) (l : List S40) (hl : l.length ≤ 1000) : ∀ (d i : Nat) (acc : List S40), i + d = l.length → acc.length = i → Ev (fun k => codesearchref21_insert.l1 k l acc false (i : Int) x.f0 x.f1 x.f2) (acc ++ insG x (l.drop i))
  | 0, i, acc, h, ha => by
    refine Ev.step (fun k => by rw [codesearchref21_insert.l1]) ?_
    have h1 : ¬ ((i : Int) < (l.length : Int)) := by omega
    have h3 : acc.length < 4398046511104 := by omega
    rw [List.drop_of_length_le (by omega), insG]
    simp only [if_neg h1, Bool.false_eq_true, if_false, if_pos h3]
    exact Ev.now _
  | d + 1, i, acc, h, ha => by
    refine Ev.step (fun k => by rw [codesearchref21_insert.l1]) ?_
    have hi : i < l.length := by omega
    have h1 : (i : Int) < (l.length : Int) := by omega
    have h2 : (0 : Int) ≤ (i : Int) := by omega
    have h3 : acc.length < 4398046511104 := by omega
    have h4 : (acc ++ [x]).length < 4398046511104 := by simp; omega
    have yes := ins_done x l hl d (i + 1) (acc ++ [x] ++ [l[i]]) (by omega) (by simp [ha])
    have no := ins_open x l hl d (i + 1) (acc ++ [l[i]]) (by omega) (by simp [ha])
    have hb := before_eq x l[i]
    rw [List.drop_eq_getElem_cons hi, insG]
    simp only [if_pos h1, Bool.false_eq_true, if_false, if_pos h2, rd_at l i hi, hb, Option.bind_some, up i (by omega)]
    by_cases c : ltE x l[i]
    · rw [if_pos c]
      simp only [decide_eq_true c, if_true, if_pos h3]
      have e : acc ++ x :: l[i] :: l.drop (i + 1) = acc ++ [x] ++ [l[i]] ++ l.drop (i + 1) := by simp
      rw [e]
      have h4' : (acc ++ [(⟨x.f0, x.f1, x.f2⟩ : S40)]).length < 4398046511104 := h4
      simp only [if_pos h4']
      exact yes
    · rw [if_neg c]
      simp only [decide_eq_false c, Bool.false_eq_true, if_false, if_pos h3]
      have e : acc ++ l[i] :: insG x (l.drop (i + 1)) = acc ++ [l[i]] ++ insG x (l.drop (i + 1)) := by simp
      rw [e]
      exact no
theorem ins_go (x : S40) (l : List S40) (hl : l.length ≤ 1000) : ∀ (d i : Nat), i + d = l.length → Ev (fun k => codesearchref21_insert.l0 k l false (i : Int) x.f0 x.f1 x.f2) (if (l.drop i).any (fun y => eqE y x) = true then l else insG x l)
  | 0, i, h => by
    refine Ev.step (fun k => by rw [codesearchref21_insert.l0]) ?_
    have h1 : ¬ ((i : Int) < (l.length : Int)) := by omega
    rw [List.drop_of_length_le (by omega)]
    simp only [if_neg h1, List.any_nil, Bool.false_eq_true, if_false]
    exact ins_open x l hl l.length 0 [] (by omega) rfl
  | d + 1, i, h => by
    refine Ev.step (fun k => by rw [codesearchref21_insert.l0]) ?_
    have hi : i < l.length := by omega
    have h1 : (i : Int) < (l.length : Int) := by omega
    have h2 : (0 : Int) ≤ (i : Int) := by omega
    have ih := ins_go x l hl d (i + 1) (by omega)
    rw [List.drop_eq_getElem_cons hi, List.any_cons]
    simp only [if_pos h1, if_pos h2, rd_at l i hi, up i (by omega)]
    by_cases c : eqE l[i] x = true
    · have c' : (l[i].f0 == x.f0 && (l[i].f1 == x.f1 && (l[i].f2.toList == x.f2.toList))) = true := c
      simp only [if_pos c', c, Bool.true_or, if_true]
      exact Ev.now _
    · have c' : ¬ ((l[i].f0 == x.f0 && (l[i].f1 == x.f1 && (l[i].f2.toList == x.f2.toList))) = true) := c
      simp only [if_neg c', Bool.eq_false_iff.2 c, Bool.false_or]
      exact ih
def insS (l : List S40) (x : S40) : List S40 := if l.any (fun y => eqE y x) = true then l else insG x l
theorem ins_ev (x : S40) (l : List S40) (hl : l.length ≤ 1000) : Ev (fun k => codesearchref21_insert.f k l x.f0 x.f1 x.f2) (insS l x) := by
  unfold codesearchref21_insert.f insS
  have := ins_go x l hl l.length 0 (by omega)
  rw [List.drop_zero] at this
  exact this
theorem any_mem {l : List S40} {x : S40} : l.any (fun y => eqE y x) = true ↔ x ∈ l := by
  rw [List.any_eq_true]
  constructor
  · rintro ⟨y, h1, h2⟩; rw [← eqE_iff.1 h2]; exact h1
  · intro h; exact ⟨x, h, eqE_iff.2 rfl⟩
theorem insS_ok (l : List S40) (x : S40) (h : l.Pairwise ltE) : (insS l x).Pairwise ltE ∧ (∀ z, z ∈ insS l x ↔ z = x ∨ z ∈ l) ∧ (insS l x).length ≤ l.length + 1 := by
  unfold insS
  by_cases c : l.any (fun y => eqE y x) = true
  · rw [if_pos c]
    have hm := any_mem.1 c
    exact ⟨h, fun z => ⟨.inr, fun hz => hz.elim (fun e => e ▸ hm) id⟩, Nat.le_succ _⟩
  · rw [if_neg c]
    have hm : x ∉ l := fun hm => c (any_mem.2 hm)
    exact ⟨insG_ok x l hm h, insG_mem x l, Nat.le_of_eq (insG_len x l)⟩
def insAll : List S40 → List S40 → List S40
  | acc, [] => acc
  | acc, x :: r => insAll (insS acc x) r
theorem insAll_ok : ∀ (l acc : List S40), acc.Pairwise ltE → (insAll acc l).Pairwise ltE ∧ (∀ z, z ∈ insAll acc l ↔ z ∈ acc ∨ z ∈ l) ∧ (insAll acc l).length ≤ acc.length + l.length
  | [], acc, h => ⟨h, fun z => by simp [insAll], by simp [insAll]⟩
  | x :: r, acc, h => by
    obtain ⟨h1, h2, h3⟩ := insS_ok acc x h
    obtain ⟨i1, i2, i3⟩ := insAll_ok r (insS acc x) h1
    refine ⟨i1, fun z => ?_, by rw [insAll, List.length_cons]; omega⟩
    rw [insAll, i2, h2, List.mem_cons]
    constructor
    · rintro ((h | h) | h)
      · exact .inr (.inl h)
      · exact .inl h
      · exact .inr (.inr h)
    · rintro (h | h | h)
      · exact .inl (.inr h)
      · exact .inl (.inl h)
      · exact .inr h
theorem joinR_go1 (b : List S40) (n : Int) (hb : b.length ≤ 200) : ∀ (d i : Nat) (acc : List S40), i + d = b.length → acc.length ≤ 200 + i → acc.Pairwise ltE → Ev (fun k => codesearchref21_Join.l1 k b n acc (i : Int)) (if rightS n (insAll acc (b.drop i)) = 0 then (insAll acc (b.drop i), 0) else ([], rightS n (insAll acc (b.drop i))))
  | 0, i, acc, h, ha, hp => by
    refine Ev.step (fun k => by rw [codesearchref21_Join.l1]) ?_
    have h1 : ¬ ((i : Int) < (b.length : Int)) := by omega
    rw [List.drop_of_length_le (by omega), insAll]
    simp only [if_neg h1]
    refine Ev.bind (rightR_ev acc n) ?_
    by_cases c : rightS n acc = 0
    · simp only [if_pos c]; exact Ev.now _
    · simp only [if_neg c]; exact Ev.now _
  | d + 1, i, acc, h, ha, hp => by
    refine Ev.step (fun k => by rw [codesearchref21_Join.l1]) ?_
    have hi : i < b.length := by omega
    have h1 : (i : Int) < (b.length : Int) := by omega
    have h2 : (0 : Int) ≤ (i : Int) := by omega
    rw [List.drop_eq_getElem_cons hi, insAll]
    simp only [if_pos h1, if_pos h2, rd_at b i hi, up i (by omega)]
    refine Ev.bind (ins_ev b[i] acc (by omega)) ?_
    obtain ⟨s1, s2, s3⟩ := insS_ok acc b[i] hp
    exact joinR_go1 b n hb d (i + 1) (insS acc b[i]) (by omega) (by omega) s1
theorem joinR_go0 (a b : List S40) (n : Int) (ha : a.length ≤ 200) (hb : b.length ≤ 200) : ∀ (d i : Nat) (acc : List S40), i + d = a.length → acc.length ≤ i → acc.Pairwise ltE → Ev (fun k => codesearchref21_Join.l0 k a b n acc (i : Int)) (if rightS n (insAll (insAll acc (a.drop i)) b) = 0 then (insAll (insAll acc (a.drop i)) b, 0) else ([], rightS n (insAll (insAll acc (a.drop i)) b)))
  | 0, i, acc, h, hl, hp => by
    refine Ev.step (fun k => by rw [codesearchref21_Join.l0]) ?_
    have h1 : ¬ ((i : Int) < (a.length : Int)) := by omega
    rw [List.drop_of_length_le (by omega), insAll]
    simp only [if_neg h1]
    have := joinR_go1 b n hb b.length 0 acc (by omega) (by omega) hp
    rw [List.drop_zero] at this
    exact this
  | d + 1, i, acc, h, hl, hp => by
    refine Ev.step (fun k => by rw [codesearchref21_Join.l0]) ?_
    have hi : i < a.length := by omega
    have h1 : (i : Int) < (a.length : Int) := by omega
    have h2 : (0 : Int) ≤ (i : Int) := by omega
    rw [List.drop_eq_getElem_cons hi, insAll]
    simp only [if_pos h1, if_pos h2, rd_at a i hi, up i (by omega)]
    refine Ev.bind (ins_ev a[i] acc (by omega)) ?_
    obtain ⟨s1, s2, s3⟩ := insS_ok acc a[i] hp
    exact joinR_go0 a b n ha hb d (i + 1) (insS acc a[i]) (by omega) (by omega) s1
theorem joinR_ev (a b : List S40) (n : Int) (ha : a.length ≤ 200) (hb : b.length ≤ 200) : Ev (fun k => codesearchref21_Join.f k a b n) (joinR a b n) := by
  unfold codesearchref21_Join.f joinR
  have := joinR_go0 a b n ha hb a.length 0 [] (by omega) (by simp) List.Pairwise.nil
  rw [List.drop_zero] at this
  obtain ⟨h1, h2, _⟩ := insAll_ok a [] List.Pairwise.nil
  obtain ⟨h3, h4, _⟩ := insAll_ok b (insAll [] a) h1
  have e : joinS a b = insAll (insAll [] a) b := join_is h3 (fun y => by rw [h4, h2]; simp)
  rw [e]
  exact this
theorem EditJoins : ∀ (a0 : (List S40)) (a1 : (List S40)) (a2 : Int), (a0.length * 32 ≤ 140737488351232 ∧ ∀ x0 ∈ a0, ((Lit.int .i64 x0.f0).wf = true ∧ (Lit.int .i64 x0.f1).wf = true ∧ x0.f2.size ≤ 140737488351232)) → (a1.length * 32 ≤ 140737488351232 ∧ ∀ x0 ∈ a1, ((Lit.int .i64 x0.f0).wf = true ∧ (Lit.int .i64 x0.f1).wf = true ∧ x0.f2.size ≤ 140737488351232)) → (Lit.int .i64 a2).wf = true → ∃ k, codesearchlaw21_EditJoins.f k a0 a1 a2 = some true := by
  intro a b n _ _ _
  refine Ev.rounds (g := fun k => codesearchlaw21_EditJoins.f k a b n) ?_
  unfold codesearchlaw21_EditJoins.f
  refine Ev.bind alive_ev ?_
  simp only [if_true]
  have j0 : Ev (fun k => codesearchlaw21_EditJoins.j0 k a b n true) true := by
    refine Ev.step (fun k => by rw [codesearchlaw21_EditJoins.j0]) ?_
    simp only [if_true]
    exact Ev.now _
  by_cases c1 : (a.length : Int) > 200
  · simp only [if_pos c1]; exact j0
  by_cases c2 : (b.length : Int) > 200
  · simp only [if_neg c1, decide_eq_true c2]; exact j0
  simp only [if_neg c1, decide_eq_false c2]
  refine Ev.step (fun k => by rw [codesearchlaw21_EditJoins.j0]) ?_
  simp only [Bool.false_eq_true, if_false]
  refine Ev.bind (join_ev a b n (by omega) (by omega)) ?_
  refine Ev.bind (joinR_ev a b n (by omega) (by omega)) ?_
  have hz : (joinR a b n).1.length ≤ 4611686018427387903 := by
    have := join_len a b
    unfold joinR
    split
    · show (joinS a b).length ≤ _; omega
    · simp
  simp only [if_true]
  refine Ev.bind (same_ev _ hz) ?_
  exact Ev.now _
end Go.Proofs.Ytkokiggccbkngaa.Pure
