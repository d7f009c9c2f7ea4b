-- Written by this session's program hprint.py over the kit's print. Not trusted: Lean checks it.
import Derived.Test.YtcoidmhdkhpalaaPAllx0
import Derived.Test.YtcoidmhdkhpalaaPAllx3
import Derived.Lib.Hide
import Derived.RangeFuncRecord
import Derived.Outline
import Derived.WalkSpells
import Derived.Laws.CopyRow
import Derived.Lib.Overlaps
import Derived.ArgAppend
import Derived.Lib.AppendZeros
import Derived.Deep.RegionLaw
import Derived.Lib.AppendZerosOnto
import Derived.Shelf.Abstract
namespace Go.Proofs.Ytcoidmhdkhpalaa.PAll
open Go.RowKit Go.Proofs.YtcoidmhdkhpalaaW.PrintWords Go.Proofs.YtcoidmhdkhpalaaW.PrintLast Go.Proofs.YtcoidmhdkhpalaaW.PrintMore
attribute [local go_sem] max2_int min2_int max_two min_two max_three min_three max_four min_four   -- for this text's walks alone
set_option linter.unusedVariables false
set_option linter.unusedSimpArgs false

--HAND notify_recv.tpl
--HANDIMPORT Derived.Lib.Hide
--HANDIMPORT Derived.RangeFuncRecord
--HANDIMPORT Derived.Outline
--HANDIMPORT Derived.WalkSpells
--HANDIMPORT Derived.Laws.CopyRow
--HANDIMPORT Derived.Lib.Overlaps
--HANDIMPORT Derived.ArgAppend
--HANDIMPORT Derived.Lib.AppendZeros
--HANDIMPORT Derived.Deep.RegionLaw
--HANDIMPORT Derived.Lib.AppendZerosOnto
--HANDIMPORT Derived.Shelf.Abstract

/-! ### notify_Receive: function 15 -/
def idxN (p : S38 → Bool) : List S38 → Nat → Int
  | [], _ => -1
  | x :: r, k => if p x then (k : Int) else idxN p r (k + 1)
theorem idxN_none {p : S38 → Bool} : ∀ (l : List S38) (k : Nat), (∀ x ∈ l, p x = false) → idxN p l k = -1
  | [], _, _ => rfl
  | x :: r, k, h => by
    rw [idxN, if_neg (by rw [h x List.mem_cons_self]; decide)]
    exact idxN_none r (k + 1) fun y hy => h y (List.mem_cons_of_mem _ hy)
theorem idxN_at {p : S38 → Bool} : ∀ (l : List S38) (k i : Nat) (hi : i < l.length), (∀ x ∈ l.take i, p x = false) → p l[i] = true → idxN p l k = ((k + i : Nat) : Int)
  | x :: r, k, 0, _, _, hp => by rw [idxN, if_pos (by simpa using hp)]; rfl
  | x :: r, k, i + 1, hi, h, hp => by
    rw [idxN, if_neg (by rw [h x (by simp)]; decide), idxN_at r (k + 1) i (by simpa using hi) (fun y hy => h y (by simp [hy])) (by simpa using hp)]
    congr 1; omega
set_option maxRecDepth 100000 in
set_option maxHeartbeats 4000000 in
theorem index_calls (F : Nat) (b : Nat) (p : S38 → Bool) (A : Option Addr) (c : Nat) (l : List S38) (w : World) (hC : Kd.C k38 w A l.length l) (hl : l.length ≤ 1099511627776) (hE : ∀ args w, (callFunc F args).run Try.prog w = .ok (.enter F args) w)
    (hP : ∀ (x : S38) (W : World), Below w.heap.size w W → Calls Try.prog F #[.agg #[.int .i64 x.f0, .int .i64 x.f1, .int .i64 x.f2.f0, .int .i64 x.f2.f1, .string x.f2.f2, .string x.f2.f3], .pointer (some ⟨b, 0, none⟩)] W fun e W' => e = .returned (.bool (p x)) ∧ Below W.heap.size W W') :
    Calls Try.prog 32 #[.slice A l.length c, .func (.func F) #[] #[.pointer (some ⟨b, 0, none⟩)]] w fun e w' => e = .returned (.int .i64 (idxN p l 0)) ∧ Below w.heap.size w w' := by
  have HC := Lib.hid hC; clear hC
  have HP := Lib.hid hP; clear hP
  have HB0 := Lib.hid (Below.refl w.heap.size w)
  go_enter Try.func32, Try.ntmps32
  go_wp2
  go_loopw [8] (fun i wr => ∃ k : Nat, k ≤ l.length ∧ i = .int .i64 k ∧ Hid (Below w.heap.size w wr) ∧ Hid (∀ x ∈ l.take k, p x = false)) (fun i _ => l.length - (intOf i).toNat)
  case atStart => exact ⟨0, Nat.zero_le _, rfl, HB0, Lib.hid (by simp)⟩
  case round =>
    obtain ⟨k, hk, rfl, HB, HN⟩ := hrel
    by_cases hlt : k < l.length
    · obtain ⟨ad, rfl, h0, h1, h2, h3, h4, h5⟩ := at_T38 (Kd.C_below HC.out HB.out) (k : Int) (by omega) (by omega)
      have hx : rd_T38 l (k : Int) = l[k] := by simp [rd_T38, hlt]
      rw [hx] at h0 h1 h2 h3 h4 h5
      simp only [Int.toNat_natCast] at h0 h1 h2 h3 h4 h5
      clear hx
      by_cases hp : p l[k] = true
      · have HPP := Lib.hid hp; clear hp
        go_wp2_with fail
        refine (HP.out l[k] _ HB.out).mono ?_
        rintro e w1 ⟨rfl, hB1⟩
        have HB1 := Lib.hid (HB.out.trans (hB1.mono HB.out.size)); clear hB1
        have hp := HPP.out
        rw [hp]
        clear hp h0 h1 h2 h3 h4 h5
        go_wp2
        go_ret
        have := idxN_at (p := p) l 0 k hlt HN.out HPP.out
        rw [Nat.zero_add] at this
        exact ⟨by rw [this]; rfl, HB1.out⟩
      · have hp' : p l[k] = false := by simpa using hp
        have HPP := Lib.hid hp'; clear hp hp'
        go_wp2_with fail
        refine (HP.out l[k] _ HB.out).mono ?_
        rintro e w1 ⟨rfl, hB1⟩
        have HB1 := Lib.hid (HB.out.trans (hB1.mono HB.out.size)); clear hB1
        have hp := HPP.out
        rw [hp]
        clear hp h0 h1 h2 h3 h4 h5
        go_wp2
        go_roundw
        case rel =>
          refine ⟨k + 1, by omega, by go_num, HB1, Lib.hid ?_⟩
          intro x hx
          rw [List.take_succ_eq_append_getElem hlt] at hx
          rcases List.mem_append.1 hx with hx | hx
          · exact HN.out x hx
          · rw [List.mem_singleton.1 hx]; exact HPP.out
        case measure => simp [intOf]; omega
    · go_wp2
      go_ret
      have hkl : k = l.length := by omega
      subst hkl
      exact ⟨by rw [idxN_none l 0 (by simpa using HN.out)]; rfl, HB.out⟩

def encN (x : S38) : List Value := [.int .i64 x.f0, .int .i64 x.f1, .int .i64 x.f2.f0, .int .i64 x.f2.f1, .string x.f2.f2, .string x.f2.f3]
def flatN : List S38 → List Value
  | [] => []
  | x :: r => encN x ++ flatN r
theorem flatN_len : ∀ l : List S38, (flatN l).length = l.length * 6
  | [] => rfl
  | x :: r => by rw [flatN, List.length_append, flatN_len r]; simp [encN]; omega
theorem flatN_append : ∀ a b : List S38, flatN (a ++ b) = flatN a ++ flatN b
  | [], b => rfl
  | x :: r, b => by rw [List.cons_append, flatN, flatN_append r b, flatN, List.append_assoc]
theorem flatN_take : ∀ (l : List S38) (i : Nat), flatN (l.take i) = (flatN l).take (i * 6)
  | [], i => by simp [flatN]
  | x :: r, 0 => by simp [flatN]
  | x :: r, i + 1 => by
    rw [List.take_succ_cons, flatN, flatN, flatN_take r i]
    have h6 : (encN x).length = 6 := rfl
    rw [List.take_append, h6, List.take_of_length_le (l := encN x) (by rw [h6]; omega), show (i + 1) * 6 - 6 = i * 6 by omega]
theorem flatN_drop : ∀ (l : List S38) (i : Nat), flatN (l.drop i) = (flatN l).drop (i * 6)
  | [], i => by simp [flatN]
  | x :: r, 0 => by simp [flatN]
  | x :: r, i + 1 => by
    rw [List.drop_succ_cons, flatN_drop r i, flatN]
    have h6 : (encN x).length = 6 := rfl
    rw [List.drop_append, h6, show (encN x).drop ((i + 1) * 6) = [] from List.drop_of_length_le (by rw [h6]; omega), show (i + 1) * 6 - 6 = i * 6 by omega, List.nil_append]
theorem flatN_one : ∀ (l : List S38), ∀ v ∈ flatN l, v.oneCell' = true
  | [], v, h => by simp [flatN] at h
  | x :: r, v, h => by
    rw [flatN, List.mem_append] at h
    rcases h with h | h
    · simp only [encN, List.mem_cons, List.not_mem_nil, or_false] at h
      rcases h with rfl | rfl | rfl | rfl | rfl | rfl <;> rfl
    · exact flatN_one r v h
theorem reps_flatN {base : Nat} {ok : Nat → Prop} {w : World} : ∀ {l : List S38} {inner : List Value}, Reps (k38.M w base ok) 6 l inner → inner = flatN l
  | [], inner, h => by
    have := h.1
    exact List.length_eq_zero_iff.1 (by simpa using this)
  | x :: r, inner, h => by
    have h1 := Kd.reps_drop (m := 1) h
    have h2 := reps_flatN h1
    have h3 := k38_openM (h.2 0 x rfl)
    rw [flatN]
    conv => lhs; rw [← List.take_append_drop 6 inner]
    congr 1
theorem flatN_reps {base : Nat} {ok : Nat → Prop} {w : World} (l : List S38) : Reps (k38.M w base ok) 6 l (flatN l) := by
  refine ⟨flatN_len l, fun j p hj => ?_⟩
  have e : ((flatN l).drop (j * 6)).take 6 = encN p := by
    rw [← flatN_drop]
    have hj' := (List.getElem?_eq_some_iff.1 hj)
    obtain ⟨hlt, he⟩ := hj'
    rw [List.drop_eq_getElem_cons hlt, he, flatN]
    have h6 : (encN p).length = 6 := rfl
    rw [List.take_append, h6, List.take_of_length_le (l := encN p) (by rw [h6]; omega)]
    simp
  rw [e]
  exact k38_mkM _ _ _ _
theorem R_openN {w : World} {base : Nat} {ok : Nat → Prop} {A : Option Addr} {c : Nat} {l : List S38} (h : Kd.R k38 38 w base ok (.slice A l.length c) l) :
    (l = [] ∧ A = none ∧ c = 0) ∨ ∃ g cur, A = some ⟨g, 0, none⟩ ∧ base ≤ g ∧ w.heap[g]? = some (.cells cur 38 (0, 0)) ∧ l.length ≤ c ∧ c ≤ maxLen ∧ cur.size = c * 6 ∧ cur.toList.take (l.length * 6) = flatN l := by
  obtain ⟨_, inner, ho, hr⟩ := h
  rcases ho.2 with ⟨h1, h2⟩ | ⟨g, cap, cur, h1, h2, h3, h4, h5, h6, h7⟩
  · left
    simp only [Value.slice.injEq] at h1
    exact ⟨List.length_eq_zero_iff.1 h1.2.1, h1.1, h1.2.2⟩
  · right
    simp only [Value.slice.injEq] at h1
    obtain ⟨rfl, _, rfl⟩ := h1
    have hsz : k38.sz = 6 := rfl
    rw [hsz] at h6 h7
    exact ⟨g, cur, rfl, h2, h3, h4, h5, h6, h7.trans (reps_flatN hr)⟩
theorem R_shutN {w : World} {base g c n : Nat} {cur : Array Value} {l : List S38} (hn : n = l.length) (hg : base ≤ g) (hb : w.heap[g]? = some (.cells cur 38 (0, 0))) (hlc : l.length ≤ c) (hcm : c ≤ maxLen) (hs : cur.size = c * 6) (H : cur.toList.take (l.length * 6) = flatN l) :
    Kd.R k38 38 w base (fun _ => True) (.slice (some ⟨g, 0, none⟩) n c) l := by
  subst hn
  exact ⟨fun _ _ => trivial, flatN l, ⟨flatN_len l, .inr ⟨g, c, cur, rfl, hg, hb, hlc, hcm, hs, H⟩⟩, flatN_reps l⟩
theorem grown_setRow (w : World) (g : Nat) (cs : Array Value) : w.grownBy (w.setRow g cs) (some g) := by
  refine ⟨rfl, rfl, rfl, by simp [World.setRow], fun k _ hk => ?_⟩
  have : g ≠ k := fun e => hk (by rw [e])
  simp [World.setRow, Array.getElem?_modify, this]
def putL (cur : Array Value) (o : Nat) (cs : List Value) : Array Value := (cur.toList.take o ++ cs ++ cur.toList.drop (o + cs.length)).toArray
theorem putL_size {cur : Array Value} {o : Nat} {cs : List Value} (h : o + cs.length ≤ cur.size) : (putL cur o cs).size = cur.size := by
  unfold putL
  simp
  omega
theorem copyN {W : World} {g o dLen dCap sLen sCap : Nat} {a : Addr} {cs : List Value} {cur : Array Value} (hb : W.heap[g]? = some (.cells cur 38 (0, 0))) (hn : cs.length = Nat.min sLen dLen * 6)
    (hsrc : ∀ j v, cs[j]? = some v → W.cell? (a.add j) = some v) (hfit : o + cs.length ≤ cur.size) (h1 : ∀ v ∈ cs, v.oneCell' = true) :
    ∃ n W', (∀ ty, (Builtin.copy_ #[22, 22] ty #[.slice (some ⟨g, o, none⟩) dLen dCap, .slice (some a) sLen sCap]).run Try.prog W = .ok (goInt n) W') ∧ W'.heap[g]? = some (.cells (putL cur o cs) 38 (0, 0)) ∧ W.grownBy W' (some g) := by
  have hl := run_loadCells_list (P := Try.prog) W a cs hsrc
  have hst := run_storeCells_at Try.prog g o 38 cs 0 cur W hb (by simpa using hfit) h1
  obtain ⟨i0, hi, hzz⟩ := Option.map_eq_some_iff.1 info38
  simp only [Prod.mk.injEq] at hzz
  obtain ⟨hz0, hz1, hz2⟩ := hzz
  refine ⟨((Nat.min sLen dLen : Nat) : Int), _, fun ty => ?_, setRow_heap W g cur (putL cur o cs) 38 (0, 0) hb, grown_setRow _ _ _⟩
  simp only [Nat.add_zero] at hst
  rw [hn] at hl
  simp [Builtin.copy_, run_underlying Try.underlying22, Builtin.lenOf, Builtin.firstCells, sizeOf, typeInfo, hi, hz1, hl, hst, putL]
theorem appN {W : World} {g n c sLen sCap : Nat} {a : Addr} {cs : List Value} {cur : Array Value} (hb : W.heap[g]? = some (.cells cur 38 (0, 0))) (hn : cs.length = sLen * 6)
    (hsrc : ∀ j v, cs[j]? = some v → W.cell? (a.add j) = some v) (hroom : n + sLen ≤ c) (hs : cur.size = c * 6) (h1 : ∀ v ∈ cs, v.oneCell' = true) :
    ∃ W', (∀ ty, (Builtin.append_ #[22, 22] ty #[.slice (some ⟨g, 0, none⟩) n c, .slice (some a) sLen sCap]).run Try.prog W = .ok (.slice (some ⟨g, 0, none⟩) (n + sLen) c) W') ∧ W'.heap[g]? = some (.cells (putL cur (n * 6) cs) 38 (0, 0)) ∧ W.grownBy W' (some g) := by
  have hst := run_storeCells_at Try.prog g (n * 6) 38 cs 0 cur W hb (by rw [hn, hs]; omega) h1
  obtain ⟨i0, hi, hzz⟩ := Option.map_eq_some_iff.1 info38
  simp only [Prod.mk.injEq] at hzz
  obtain ⟨hz0, hz1, hz2⟩ := hzz
  have hfc := run_firstCells_some (P := Try.prog) W i0.size sLen a sLen sCap cs (by rw [hz1]; exact hn) hsrc
  rw [hz1] at hfc
  refine ⟨_, fun ty => ?_, setRow_heap W g cur (putL cur (n * 6) cs) 38 (0, 0) hb, grown_setRow _ _ _⟩
  simp only [Nat.add_zero] at hst
  simp [Builtin.append_, run_underlying Try.underlying22, sizeOf, typeInfo, hi, hz1, Builtin.lenOf, hroom, hfc, Addr.add_lit, hst, putL]
theorem zero38_one (m : Nat) : ∀ v ∈ (Builtin.zeroCells (Value.agg #[(.int .i64 0), (.int .i64 0), (.int .i64 0), (.int .i64 0), (.string ⟨#[]⟩), (.string ⟨#[]⟩)]).cells m).toList, v.oneCell' = true := by
  intro v hv
  obtain ⟨i, hi, rfl⟩ := List.mem_iff_getElem.1 hv
  have hz : (Value.agg #[(.int .i64 0), (.int .i64 0), (.int .i64 0), (.int .i64 0), (.string ⟨#[]⟩), (.string ⟨#[]⟩)]).cells = #[(.int .i64 0), (.int .i64 0), (.int .i64 0), (.int .i64 0), (.string ⟨#[]⟩), (.string ⟨#[]⟩)] := rfl
  simp only [Builtin.zeroCells, hz, Array.getElem_toList, Array.getElem_map, Array.getElem_range]
  have h3 : i % 6 < 6 := Nat.mod_lt _ (by omega)
  have e3 : (#[(.int .i64 0), (.int .i64 0), (.int .i64 0), (.int .i64 0), (.string ⟨#[]⟩), (.string ⟨#[]⟩)] : Array Value).size = 6 := rfl
  rw [e3]
  match i % 6, h3 with
  | 0, _ => rfl
  | 1, _ => rfl
  | 2, _ => rfl
  | 3, _ => rfl
  | 4, _ => rfl
  | 5, _ => rfl
theorem zero38_len (m : Nat) : (Builtin.zeroCells (Value.agg #[(.int .i64 0), (.int .i64 0), (.int .i64 0), (.int .i64 0), (.string ⟨#[]⟩), (.string ⟨#[]⟩)]).cells m).toList.length = m * 6 := by
  have hz : (Value.agg #[(.int .i64 0), (.int .i64 0), (.int .i64 0), (.int .i64 0), (.string ⟨#[]⟩), (.string ⟨#[]⟩)]).cells.size = 6 := rfl
  simp [Builtin.zeroCells, hz]
theorem clearN {W : World} {g c k : Nat} {cur : Array Value} (hb : W.heap[g]? = some (.cells cur 38 (0, 0))) (hfit : (k + 1) * 6 ≤ cur.size) :
    ∃ cs W', cs.length = 6 ∧ (∀ ty, (Builtin.clear_ #[22] ty #[.slice (some ⟨g, k * 6, none⟩) 1 (c - k)]).run Try.prog W = .ok (.tuple #[]) W') ∧ W'.heap[g]? = some (.cells (putL cur (k * 6) cs) 38 (0, 0)) ∧ W.grownBy W' (some g) := by
  have hst := run_storeCells_at Try.prog g (k * 6) 38 _ 0 cur W hb (by rw [zero38_len]; omega) (zero38_one 1)
  refine ⟨_, _, zero38_len 1, fun ty => ?_, setRow_heap W g cur _ 38 (0, 0) hb, grown_setRow _ _ _⟩
  simp only [Nat.add_zero] at hst
  have hv : ∀ w, (zeroValue 38).run Try.prog w = .ok (Value.agg #[(.int .i64 0), (.int .i64 0), (.int .i64 0), (.int .i64 0), (.string ⟨#[]⟩), (.string ⟨#[]⟩)]) w := Try.zeroValue38
  simp [Builtin.clear_, run_underlying Try.underlying22, hv, hst, putL]
/-- rows of alerts stand -/
def Keep36 (n0 : Nat) (w w' : World) : Prop := ∀ (v : Value) (l : List S36), Kd.R k36 36 w n0 (fun _ => True) v l → Kd.R k36 36 w' n0 (fun _ => True) v l
theorem Keep36.refl (n0 : Nat) (w : World) : Keep36 n0 w w := fun _ _ h => h
theorem Keep36.trans {n0 : Nat} {w w1 w2 : World} (h : Keep36 n0 w w1) (k : Keep36 n0 w1 w2) : Keep36 n0 w w2 := fun v l r => k v l (h v l r)
theorem Keep36.drew (n0 : Nat) (w : World) : Keep36 n0 w w.drew := fun _ _ h => Kd.R_drew h
theorem Keep36.below {n0 : Nat} {w w' : World} (h : Below w.heap.size w w') : Keep36 n0 w w' := fun _ _ r => Kd.R_below r h
theorem Keep36.grown {n0 g : Nat} {w w' : World} {cur : Array Value} (hb : w.heap[g]? = some (.cells cur 38 (0, 0))) (hg : w.grownBy w' (some g)) : Keep36 n0 w w' := fun _ _ r =>
  Kd.R_mono (Kd.R_grown (Kd.R_types r hb (by decide)) hg (fun k hk => by simp; exact hk.2)) (fun _ _ => trivial)
theorem Keep36.own {n0 : Nat} {w w' : World} {v1 : Value} {l1 : List S38} (h1 : Kd.R k38 38 w n0 (fun _ => True) v1 l1) (hg : w.grownBy w' v1.ownBlock) : Keep36 n0 w w' := fun _ _ r => by
  obtain ⟨_, inner, ho, _⟩ := h1
  rcases hv : v1.ownBlock with _ | g
  · exact Kd.R_grown r hg (fun k _ => by rw [hv]; simp)
  · obtain ⟨cells, hc⟩ := own_typed ho g hv
    exact Kd.R_mono (Kd.R_grown (Kd.R_types r hc (by decide)) hg (fun k hk => by rw [hv]; simp; exact hk.2)) (fun _ _ => trivial)

theorem step_append_runN {ops : Array Oper} {o : Oper} {a : Act} {w : World} {K : Act → World → Prop} {Q : Exit → Act → World → Prop} {E : Prop}
    (hg : o.guard = none) (d x : Operand) (dT sT : TypeId) (hop : o.op = Op.call { callee := Callee.builtin Builtin.append, args := #[d, x], argTypes := #[dT, sT] })
    (v u : Value) (hd : a.eval d = v) (hx : a.eval x = u) {v' : Value} {w' : World} (hr : (Builtin.append_ #[dT, sT] o.type #[v, u]).run Try.prog w = .ok v' w') (hK : K (a.put o.dst v') w') :
    if Region.wanted o (yielded ops a.tmps) = true then Oper.wp Try.prog o a w K Q else E := by
  have hw : Region.wanted o (yielded ops a.tmps) = true := by simp [Region.wanted, hg]
  rw [if_pos hw]
  unfold Oper.wp
  simp [execOp, hop, resolve, invoke, builtin, hd, hx, hr, Result.andThen]
  exact hK
theorem step_copy_runN {ops : Array Oper} {o : Oper} {a : Act} {w : World} {K : Act → World → Prop} {Q : Exit → Act → World → Prop} {E : Prop}
    (hg : o.guard = none) (d x : Operand) (dT sT : TypeId) (hop : o.op = Op.call { callee := Callee.builtin Builtin.copy, args := #[d, x], argTypes := #[dT, sT] })
    (v u : Value) (hd : a.eval d = v) (hx : a.eval x = u) {v' : Value} {w' : World} (hr : (Builtin.copy_ #[dT, sT] o.type #[v, u]).run Try.prog w = .ok v' w') (hK : K (a.put o.dst v') w') :
    if Region.wanted o (yielded ops a.tmps) = true then Oper.wp Try.prog o a w K Q else E := by
  have hw : Region.wanted o (yielded ops a.tmps) = true := by simp [Region.wanted, hg]
  rw [if_pos hw]
  unfold Oper.wp
  simp [execOp, hop, resolve, invoke, builtin, hd, hx, hr, Result.andThen]
  exact hK
theorem blk_drew' {w : World} {g : Nat} {o : Obj} (h : w.heap[g]? = some o) : w.drew.heap[g]? = some o := h
theorem src_of {w : World} {g n i : Nat} {cur : Array Value} {l : List S38} (hb : w.heap[g]? = some (.cells cur 38 (0, 0))) (hn : n = l.length) (H : cur.toList.take (n * 6) = flatN l) :
    ∀ j v, (flatN (l.drop i))[j]? = some v → w.cell? ((⟨g, i * 6, none⟩ : Addr).add j) = some v := by
  intro j v hj
  rw [flatN_drop, List.getElem?_drop, ← H, List.getElem?_take] at hj
  split at hj
  · rw [Addr.add_lit, blk_cell hb]
    simpa using hj
  · cases hj
theorem take_putL_ahead {cur : Array Value} {o m : Nat} {cs : List Value} (h : m ≤ o) (ho : o ≤ cur.size) : (putL cur o cs).toList.take m = cur.toList.take m := by
  unfold putL
  have h1 : (cur.toList.take o).length = o := by simp; omega
  show ((cur.toList.take o ++ cs) ++ cur.toList.drop (o + cs.length)).take m = _
  rw [List.append_assoc, List.take_append_of_le_length (by rw [h1]; exact h), List.take_take, Nat.min_eq_left h]
theorem take_putL_at {cur : Array Value} {o m : Nat} {cs : List Value} (hm : m = o + cs.length) (ho : o ≤ cur.size) : (putL cur o cs).toList.take m = cur.toList.take o ++ cs := by
  unfold putL
  have h1 : (cur.toList.take o).length = o := by simp; omega
  show ((cur.toList.take o ++ cs) ++ cur.toList.drop (o + cs.length)).take m = _
  rw [List.take_append_of_le_length (by rw [List.length_append, h1]; omega), List.take_of_length_le (by rw [List.length_append, h1]; omega)]
theorem take_pre {cur : Array Value} {n i : Nat} {l : List S38} (H : cur.toList.take (n * 6) = flatN l) (hi : i ≤ n) : cur.toList.take (i * 6) = flatN (l.take i) := by
  rw [flatN_take, ← H, List.take_take, Nat.min_eq_left (by omega)]
set_option maxRecDepth 100000 in
set_option maxHeartbeats 4000000 in
theorem delete_calls (A : Option Addr) (c i n0 : Nat) (l : List S38) (w : World) (h : Kd.R k38 38 w n0 (fun _ => True) (.slice A l.length c) l) (hi : i < l.length) (hl : l.length ≤ 1099511627776) (hn0 : n0 ≤ w.heap.size) :
    Calls Try.prog 34 #[.slice A l.length c, .int .i64 (i : Int), .int .i64 ((i : Int) + 1)] w fun e w' => ∃ v : Value, e = .returned v ∧ Kd.R k38 38 w' n0 (fun _ => True) v (l.take i ++ l.drop (i + 1)) ∧ Below n0 w w' ∧ Keep36 n0 w w' := by
  rcases R_openN h with ⟨rfl, _, _⟩ | ⟨g, cur, rfl, hg, hb, hlc, hcm, hs, H⟩
  · simp at hi
  have hcm' := hcm
  unfold maxLen at hcm
  have hdl : (flatN (l.drop (i + 1))).length = (l.length - (i + 1)) * 6 := by rw [flatN_len, List.length_drop]
  have hgw : g < w.heap.size := (Array.getElem?_eq_some_iff.1 hb).1
  obtain ⟨a, hsrc, hca⟩ : ∃ a : Addr, (∀ j v, (flatN (l.drop (i + 1)))[j]? = some v → w.drew.cell? (a.add j) = some v) ∧ ((c = i + 1 ∧ a = ⟨g, 0, none⟩) ∨ (¬ c = i + 1 ∧ a = ⟨g, (i + 1) * 6, none⟩)) := by
    by_cases hc : c = i + 1
    · refine ⟨_, fun j v hj => ?_, .inl ⟨hc, rfl⟩⟩
      rw [List.drop_of_length_le (by omega)] at hj
      simp [flatN] at hj
    · exact ⟨_, src_of (n := l.length) (blk_drew' hb) rfl H, .inr ⟨hc, rfl⟩⟩
  obtain ⟨W1, hA, hb1, hg1⟩ := appN (W := w.drew) (n := i) (c := c) (sLen := l.length - (i + 1)) (sCap := c - (i + 1)) (a := a) (blk_drew' hb) hdl hsrc (by omega) hs (flatN_one _)
  have hps := putL_size (cur := cur) (o := i * 6) (cs := flatN (l.drop (i + 1))) (by rw [hdl, hs]; omega)
  obtain ⟨cs, W2, hcs, hC, hb2, hg2⟩ := clearN (c := c) (k := l.length - 1) hb1 (by rw [hps, hs]; omega)
  have hB : Below n0 w W2 := ((below_drew (Below.refl n0 w)).grown hg1 (by simpa using hn0) (fun k hk => by injection hk with hk; omega)).grown hg2 (by have := hg1.size; simp at this; omega) (fun k hk => by injection hk with hk; omega)
  have hK : Keep36 n0 w W2 := ((Keep36.drew n0 w).trans (Keep36.grown (blk_drew' hb) hg1)).trans (Keep36.grown hb1 hg2)
  have hR : Kd.R k38 38 W2 n0 (fun _ => True) (.slice (some ⟨g, 0, none⟩) (l.length - 1) c) (l.take i ++ l.drop (i + 1)) := by
    have hll : (l.take i ++ l.drop (i + 1)).length = l.length - 1 := by simp; omega
    refine R_shutN hll.symm hg hb2 (by omega) hcm' (by rw [putL_size (by rw [hps, hs, hcs]; omega), hps, hs]) ?_
    rw [hll, take_putL_ahead (Nat.le_refl _) (by rw [hps, hs]; omega), take_putL_at (by rw [hdl]; omega) (by rw [hs]; omega), take_pre H (by omega), flatN_append]
  have e1 : i + (l.length - (i + 1)) = l.length - 1 := by omega
  have e2 : 1 = l.length - (l.length - 1) := by omega
  rw [e1] at hA
  have hC' : ∀ ty, (Builtin.clear_ #[22] ty #[.slice (some ⟨g, (l.length - 1) * 6, none⟩) (l.length - (l.length - 1)) (c - (l.length - 1))]).run Try.prog W1 = .ok (.tuple #[]) W2 := by rw [← e2]; exact hC
  clear e1 e2 hC hsrc hps hcs hb1 hg1 hb2 hg2 hdl hs H hb
  have hck : ¬ c = l.length - 1 := by omega
  have hkc : l.length - 1 ≤ l.length := by omega
  have HA := Lib.hid hA; clear hA
  have HR := Lib.hid hR; clear hR
  have HB := Lib.hid hB; clear hB
  have HK := Lib.hid hK; clear hK
  clear h
  have hne : ¬ ((i : Int) = (i : Int) + 1) := by omega
  have hw1 : IntKind.i64.wrap ((i : Int) + 1) = (i : Int) + 1 := by rw [IntKind.wrap_i64]; omega
  have hb1 : (0 : Int) ≤ (i : Int) + 1 := by omega
  have hil : (i : Int) + 1 ≤ (l.length : Int) := by omega
  have htn : ((i : Int) + 1).toNat = i + 1 := by omega
  have hci : ¬ c = i := by omega
  have hic : i ≤ c := by omega
  rcases hca with ⟨hc, rfl⟩ | ⟨hc, rfl⟩
  · subst hc
    have hii : (i : Int) ≤ (i : Int) + 1 := by omega
    have hA0 := HA.out
    rw [show l.length - (i + 1) = 0 by omega, show i + 1 - (i + 1) = 0 by omega] at hA0
    have HA0 := Lib.hid hA0; clear hA0
    go_enter Try.func34, Try.ntmps34
    go_wp2
    go_region_law (refine step_append_runN rfl _ _ 22 22 rfl (.slice (some ⟨g, 0, none⟩) i (i + 1)) (.slice (some ⟨g, 0, none⟩) 0 0) (by simp [Act.eval, Act.put]) (by simp [Act.eval, Act.put]) (HA0.out _) ?_)
    go_wp2
    go_ret
    exact ⟨_, rfl, HR.out, HB.out, HK.out⟩
  · go_enter Try.func34, Try.ntmps34
    go_wp2
    go_region_law (refine step_append_runN rfl _ _ 22 22 rfl (.slice (some ⟨g, 0, none⟩) i c) (.slice (some ⟨g, (i + 1) * 6, none⟩) (l.length - (i + 1)) (c - (i + 1))) (by simp [Act.eval, Act.put]) (by simp [Act.eval, Act.put]) (HA.out _) ?_)
    go_wp2
    go_ret
    exact ⟨_, rfl, HR.out, HB.out, HK.out⟩

theorem drop_putL {cur : Array Value} {o : Nat} {cs : List Value} (ho : o ≤ cur.size) : (putL cur o cs).toList.drop o = cs ++ cur.toList.drop (o + cs.length) := by
  unfold putL
  have h1 : (cur.toList.take o).length = o := by simp; omega
  show ((cur.toList.take o ++ cs) ++ cur.toList.drop (o + cs.length)).drop o = _
  rw [List.append_assoc, List.drop_append, h1, List.drop_of_length_le (by rw [h1]; omega), Nat.sub_self, List.drop_zero, List.nil_append]
theorem take_putL_mid {cur : Array Value} {o m k : Nat} {cs : List Value} (hm : m = o + cs.length + k) (ho : o ≤ cur.size) : (putL cur o cs).toList.take m = cur.toList.take o ++ cs ++ (cur.toList.drop (o + cs.length)).take k := by
  unfold putL
  have h1 : (cur.toList.take o ++ cs).length = o + cs.length := by simp; omega
  show ((cur.toList.take o ++ cs) ++ cur.toList.drop (o + cs.length)).take m = _
  rw [List.take_append, h1, List.take_of_length_le (by rw [h1]; omega), show m - (o + cs.length) = k by omega]
theorem one_C {w : World} {vb : Nat} {x : S38} (hv : w.heap[vb]? = some (.cells (encN x).toArray 38 (0, 0))) : Kd.C k38 w (some ⟨vb, 0, none⟩) ([x] : List S38).length [x] := by
  refine ⟨rfl, by simp, fun _ => ⟨_, rfl, fun j p hj => ?_⟩⟩
  match j, hj with
  | 0, hj =>
    obtain rfl : x = p := by simpa using hj
    refine ⟨encN x, rfl, k38_mk _ _, fun i u hu => ?_⟩
    rw [Addr.add_lit, blk_cell hv]
    simpa using hu
  | j + 1, hj => simp at hj
theorem src_one {w : World} {vb : Nat} {x : S38} (hv : w.heap[vb]? = some (.cells (encN x).toArray 38 (0, 0))) : ∀ j v, (encN x)[j]? = some v → w.cell? ((⟨vb, 0, none⟩ : Addr).add j) = some v := by
  intro j v hj
  rw [Addr.add_lit, blk_cell hv]
  simpa using hj
theorem encN_one (x : S38) : ∀ v ∈ encN x, v.oneCell' = true := fun v hv => flatN_one [x] v (by simp [flatN, hv])
set_option maxRecDepth 100000 in
set_option maxHeartbeats 4000000 in
theorem insert_end (A : Option Addr) (c n0 vb : Nat) (x : S38) (l : List S38) (w : World) (h : Kd.R k38 38 w n0 (fun _ => True) (.slice A l.length c) l) (hv : w.heap[vb]? = some (.cells (encN x).toArray 38 (0, 0))) (hl : l.length ≤ 1099511627776) (hn0 : n0 ≤ w.heap.size) :
    Calls Try.prog 42 #[.slice A l.length c, .int .i64 (l.length : Int), .slice (some ⟨vb, 0, none⟩) 1 1] w fun e w' => ∃ v : Value, e = .returned v ∧ Kd.R k38 38 w' n0 (fun _ => True) v (l ++ [x]) ∧ Below n0 w w' ∧ Keep36 n0 w w' := by
  have hC : Kd.C k38 w (some ⟨vb, 0, none⟩) ([x] : List S38).length [x] := one_C hv
  have HC := Lib.hid hC; clear hC hv
  have hz1 : ¬ ((1 : Int) = 0) := by omega
  rcases R_openN h with ⟨rfl, rfl, rfl⟩ | ⟨g, cur, rfl, hg, hb, hlc, hcm, hs, H⟩
  · have HR := Lib.hid h; clear h
    go_enter Try.func42, Try.ntmps42
    go_wp2_with (at_builtin; refine Kd.R_append_rows k38 (w0 := w) n0 rfl (.tmp 23) (.tmp 24) 22 38 _ 64 rfl Try.underlying22 info38 rfl (by decide) (by decide) _ [] [x] (some ⟨vb, 0, none⟩) 1 1 (fun _ => True) (fun _ => False) rfl rfl HR.out HC.out (fun x cs h => by rw [k38_open h]; exact k38_mkM _ _ _ _) (fun _ h => h.elim) (fun _ _ => trivial) (Below.refl _ _) hn0 (by simp) ?_; intro v1 w1 ho hb1 hg1 hat1)
    go_ret
    exact ⟨_, rfl, ho, hb1, Keep36.own HR.out hg1⟩
  · have HR := Lib.hid h; clear h
    have HB := Lib.hid hb; clear hb
    clear H hs
    unfold maxLen at hcm
    by_cases hc : c = l.length
    · subst hc
      go_enter Try.func42, Try.ntmps42
      go_wp2_with (at_builtin; refine Kd.R_append_rows k38 (w0 := w) n0 rfl (.tmp 23) (.tmp 24) 22 38 _ 64 rfl Try.underlying22 info38 rfl (by decide) (by decide) _ l [x] (some ⟨vb, 0, none⟩) 1 1 (fun _ => True) (fun _ => False) rfl rfl HR.out HC.out (fun x cs h => by rw [k38_open h]; exact k38_mkM _ _ _ _) (fun _ h => h.elim) (fun _ _ => trivial) (Below.refl _ _) hn0 (by omega) ?_; intro v1 w1 ho hb1 hg1 hat1)
      go_ret
      exact ⟨_, rfl, ho, hb1, Keep36.own HR.out hg1⟩
    · go_enter Try.func42, Try.ntmps42
      go_wp2_with (at_builtin; refine Kd.R_append_rows k38 (w0 := w) n0 rfl (.tmp 23) (.tmp 24) 22 38 _ 64 rfl Try.underlying22 info38 rfl (by decide) (by decide) _ l [x] (some ⟨vb, 0, none⟩) 1 1 (fun _ => True) (fun _ => False) rfl rfl HR.out HC.out (fun x cs h => by rw [k38_open h]; exact k38_mkM _ _ _ _) (fun _ h => h.elim) (fun _ _ => trivial) (Below.refl _ _) hn0 (by omega) ?_; intro v1 w1 ho hb1 hg1 hat1)
      go_ret
      exact ⟨_, rfl, ho, hb1, Keep36.own HR.out hg1⟩
theorem overlaps_apart {w : World} {vb g i lb cb : Nat} {cur : Array Value} {x : S38} (hv : w.heap[vb]? = some (.cells (encN x).toArray 38 (0, 0))) (hb : w.heap[g]? = some (.cells cur 38 (0, 0))) (hne : vb ≠ g) (hs : cur.size ≠ 0) :
    (callFunc 44 #[.slice (some ⟨vb, 0, none⟩) 1 1, .slice (some ⟨g, i, none⟩) lb cb]).run Try.prog w = .ok (.value (.bool false)) w := by
  rw [run_callFunc_extern Try.func44 (by kernel_rfl) (by kernel_rfl) (by kernel_rfl) (e := Extern.SlicesOverlaps.overlaps #[22, 22] #[4]) (by kernel_rfl),
    Lib.run_overlaps_apart w 22 4 38 Try.underlying22 6 Try.sizeOf38 ⟨vb, 0, none⟩ ⟨g, i, none⟩ 1 1 lb cb hne 38 38 6 cur.size (by simp [World.shape?, hv, encN]) (by simp [World.shape?, hb]) hs (blk_frozen hv _) (blk_frozen hv _)]
  rfl
set_option maxRecDepth 100000 in
set_option maxHeartbeats 4000000 in
theorem insert_room (g c i n0 vb : Nat) (x : S38) (l : List S38) (cur : Array Value) (w : World) (hg : n0 ≤ g) (hb : w.heap[g]? = some (.cells cur 38 (0, 0))) (hcm : c ≤ maxLen) (hs : cur.size = c * 6) (H : cur.toList.take (l.length * 6) = flatN l)
    (hv : w.heap[vb]? = some (.cells (encN x).toArray 38 (0, 0))) (hne : vb ≠ g) (hi : i < l.length) (hroom : l.length + 1 ≤ c) (hl : l.length ≤ 1099511627776) (hn0 : n0 ≤ w.heap.size) :
    Calls Try.prog 42 #[.slice (some ⟨g, 0, none⟩) l.length c, .int .i64 (i : Int), .slice (some ⟨vb, 0, none⟩) 1 1] w fun e w' => ∃ v : Value, e = .returned v ∧ Kd.R k38 38 w' n0 (fun _ => True) v (l.take i ++ x :: l.drop i) ∧ Below n0 w w' ∧ Keep36 n0 w w' := by
  have hcm' := hcm
  unfold maxLen at hcm
  have hdl : (flatN (l.drop i)).length = (l.length - i) * 6 := by rw [flatN_len, List.length_drop]
  have h6 : (encN x).length = 6 := rfl
  have hgw : g < w.heap.size := (Array.getElem?_eq_some_iff.1 hb).1
  have hov : ∀ lb cb, (callFunc 44 #[.slice (some ⟨vb, 0, none⟩) 1 1, .slice (some ⟨g, (i + 1) * 6, none⟩) lb cb]).run Try.prog w = .ok (.value (.bool false)) w := fun lb cb => overlaps_apart hv hb hne (by omega)
  obtain ⟨n1, W1, hA, hb1, hg1⟩ := copyN (W := w.drew) (g := g) (o := (i + 1) * 6) (dLen := l.length + 1 - (i + 1)) (dCap := c - (i + 1)) (sLen := l.length + 1 - i) (sCap := c - i) (a := ⟨g, i * 6, none⟩) (blk_drew' hb) (by rw [hdl]; simp only [Nat.min_def]; split <;> omega) (src_of (n := l.length) (blk_drew' hb) rfl H) (by rw [hdl, hs]; omega) (flatN_one _)
  have hps := putL_size (cur := cur) (o := (i + 1) * 6) (cs := flatN (l.drop i)) (by rw [hdl, hs]; omega)
  have hvw : vb < w.heap.size := (Array.getElem?_eq_some_iff.1 hv).1
  have hv1 : W1.heap[vb]? = some (.cells (encN x).toArray 38 (0, 0)) := (hg1.block vb hvw (by simp [hne])).trans hv
  obtain ⟨n2, W2, hC, hb2, hg2⟩ := copyN (W := W1) (g := g) (o := i * 6) (dLen := l.length + 1 - i) (dCap := c - i) (sLen := 1) (sCap := 1) (a := ⟨vb, 0, none⟩) hb1 (by rw [h6]; simp only [Nat.min_def]; split <;> omega) (src_one hv1) (by rw [h6, hps, hs]; omega) (encN_one x)
  have hB : Below n0 w W2 := ((below_drew (Below.refl n0 w)).grown hg1 (by simpa using hn0) (fun k hk => by injection hk with hk; omega)).grown hg2 (by have := hg1.size; simp at this; omega) (fun k hk => by injection hk with hk; omega)
  have hK : Keep36 n0 w W2 := ((Keep36.drew n0 w).trans (Keep36.grown (blk_drew' hb) hg1)).trans (Keep36.grown hb1 hg2)
  have hR : Kd.R k38 38 W2 n0 (fun _ => True) (.slice (some ⟨g, 0, none⟩) (l.length + 1) c) (l.take i ++ x :: l.drop i) := by
    have hll : (l.take i ++ x :: l.drop i).length = l.length + 1 := by simp; omega
    refine R_shutN hll.symm hg hb2 (by omega) hcm' (by rw [putL_size (by rw [hps, hs, h6]; omega), hps, hs]) ?_
    have e9 : ((putL cur ((i + 1) * 6) (flatN (l.drop i))).toList.drop ((i + 1) * 6)).take ((l.length - i) * 6) = flatN (l.drop i) := by
      rw [drop_putL (by rw [hs]; omega), ← hdl]
      exact List.take_left
    rw [hll, take_putL_mid (k := (l.length - i) * 6) (by rw [h6]; omega) (by rw [hps, hs]; omega), take_putL_ahead (by omega) (by rw [hs]; omega), take_pre H (by omega), h6, show i * 6 + 6 = (i + 1) * 6 by omega, e9, flatN_append, flatN, List.append_assoc]
  clear hps hb1 hg1 hb2 hg2 hdl hs H hb hv hv1 h6 hne
  rw [show l.length + 1 - (i + 1) = l.length - i by omega] at hA
  have HA := Lib.hid hA; clear hA
  have HC := Lib.hid hC; clear hC
  have HR := Lib.hid hR; clear hR
  have HB := Lib.hid hB; clear hB
  have HK := Lib.hid hK; clear hK
  have hz1 : ¬ ((1 : Int) = 0) := by omega
  have hz2 : ¬ ((i : Int) = (l.length : Int)) := by omega
  have hw1 : IntKind.i64.wrap ((i : Int) + 1) = (i : Int) + 1 := by rw [IntKind.wrap_i64]; omega
  have hw2 : IntKind.i64.wrap ((l.length : Int) + 1) = (l.length : Int) + 1 := by rw [IntKind.wrap_i64]; omega
  have hb1 : (0 : Int) ≤ (i : Int) + 1 := by omega
  have hb2 : (0 : Int) ≤ (l.length : Int) + 1 := by omega
  have hil : (i : Int) + 1 ≤ (l.length : Int) + 1 := by omega
  have hil2 : (i : Int) ≤ (l.length : Int) + 1 := by omega
  have hlc : (l.length : Int) + 1 ≤ (c : Int) := by omega
  have hlc' : ¬ ((c : Int) < (l.length : Int) + 1) := by omega
  have htn : ((i : Int) + 1).toNat = i + 1 := by omega
  have htn2 : ((l.length : Int) + 1).toNat = l.length + 1 := by omega
  have hci : ¬ c = i := by omega
  have hci1 : ¬ c = i + 1 := by omega
  have hic : i ≤ c := by omega
  go_enter Try.func42, Try.ntmps42
  go_wp2_with (simp only [hov])
  go_region_law (refine step_copy_runN rfl _ _ 22 22 rfl (.slice (some ⟨g, (i + 1) * 6, none⟩) (l.length - i) (c - (i + 1))) (.slice (some ⟨g, i * 6, none⟩) (l.length + 1 - i) (c - i)) (by simp [Act.eval, Act.put]) (by simp [Act.eval, Act.put]) (HA.out _) ?_)
  have hC := HC.out
  go_wp2
  go_ret
  exact ⟨_, rfl, HR.out, HB.out, HK.out⟩
set_option maxRecDepth 100000 in
set_option maxHeartbeats 4000000 in
theorem insert_grow (g i n0 vb : Nat) (x : S38) (l : List S38) (cur : Array Value) (w : World) (hg : n0 ≤ g) (hb : w.heap[g]? = some (.cells cur 38 (0, 0))) (hs : cur.size = l.length * 6) (H : cur.toList.take (l.length * 6) = flatN l)
    (hv : w.heap[vb]? = some (.cells (encN x).toArray 38 (0, 0))) (hi : i < l.length) (hl : l.length ≤ 1099511627776) (hn0 : n0 ≤ w.heap.size) :
    Calls Try.prog 42 #[.slice (some ⟨g, 0, none⟩) l.length l.length, .int .i64 (i : Int), .slice (some ⟨vb, 0, none⟩) 1 1] w fun e w' => ∃ v : Value, e = .returned v ∧ Kd.R k38 38 w' n0 (fun _ => True) v (l.take i ++ x :: l.drop i) ∧ Below n0 w w' ∧ Keep36 n0 w w' := by
  have hdl : (flatN (l.drop i)).length = (l.length - i) * 6 := by rw [flatN_len, List.length_drop]
  have htl : (flatN (l.take i)).length = i * 6 := by rw [flatN_len, List.length_take, Nat.min_eq_left (by omega)]
  have h6 : (encN x).length = 6 := rfl
  have hgw : g < w.heap.size := (Array.getElem?_eq_some_iff.1 hb).1
  have hvw : vb < w.heap.size := (Array.getElem?_eq_some_iff.1 hv).1
  obtain ⟨i0, hi0, hzz⟩ := Option.map_eq_some_iff.1 info38
  simp only [Prod.mk.injEq] at hzz
  obtain ⟨hz0, hzs, hzb⟩ := hzz
  have hik : i + (l.length + 1 - i) = l.length + 1 := by omega
  have hold : (Builtin.firstCells i0.size i (.slice (some ⟨g, 0, none⟩) i l.length)).run Try.prog w.drew = .ok (flatN (l.take i)).toArray w.drew := by
    rw [hzs]
    exact run_firstCells_some w.drew 6 i ⟨g, 0, none⟩ i l.length _ htl (fun j v hj => by
      rw [flatN_take, List.getElem?_take] at hj
      split at hj
      · exact src_of (i := 0) (n := l.length) (blk_drew' hb) rfl H j v (by simpa using hj)
      · cases hj)
  have hrz : ∀ ty, (Builtin.append_ #[22, 3] ty #[.slice (some ⟨g, 0, none⟩) i l.length, .int .i64 ((l.length : Int) + 1 - (i : Int))]).run Try.prog w =
      .ok (.slice (some ⟨w.heap.size, 0, none⟩) (l.length + 1) (grownCap w (l.length + 1) l.length 38)) (w.drew.alloc (.cells ((flatN (l.take i)).toArray ++ Builtin.zeroCells (Value.agg #[(.int .i64 0), (.int .i64 0), (.int .i64 0), (.int .i64 0), (.string ⟨#[]⟩), (.string ⟨#[]⟩)]).cells (l.length + 1 - i) ++ Builtin.zeroCells (Value.agg #[(.int .i64 0), (.int .i64 0), (.int .i64 0), (.int .i64 0), (.string ⟨#[]⟩), (.string ⟨#[]⟩)]).cells (grownCap w (l.length + 1) l.length 38 - (l.length + 1))) 38)) := fun ty => by
    have h := Lib.run_append_grow_zeros w 22 3 ty 38 i0 _ .i64 .i64 Try.underlying22 Try.underlying3 hi0 hz0 (some ⟨g, 0, none⟩) i l.length _ hold (l.length + 1 - i) (by omega) (by rw [hzs]; omega) (by omega) (by omega) (by rw [hzb]; omega) (by rw [hzb, hik]; exact growslice_fits (by omega) (by omega))
    rw [hik] at h
    rw [show (l.length : Int) + 1 - (i : Int) = ((l.length + 1 - i : Nat) : Int) by omega]
    exact h
  have hGn : l.length + 1 ≤ grownCap w (l.length + 1) l.length 38 := grownCap_ge w _ _ _
  have hGm : grownCap w (l.length + 1) l.length 38 ≤ maxLen := grownCap_le_maxLen w _ _ 38 (by unfold maxLen; omega)
  generalize grownCap w (l.length + 1) l.length 38 = G at hrz hGn hGm
  obtain ⟨ROW, hROW⟩ : ∃ ROW : Array Value, ROW = (flatN (l.take i)).toArray ++ Builtin.zeroCells (Value.agg #[(.int .i64 0), (.int .i64 0), (.int .i64 0), (.int .i64 0), (.string ⟨#[]⟩), (.string ⟨#[]⟩)]).cells (l.length + 1 - i) ++ Builtin.zeroCells (Value.agg #[(.int .i64 0), (.int .i64 0), (.int .i64 0), (.int .i64 0), (.string ⟨#[]⟩), (.string ⟨#[]⟩)]).cells (G - (l.length + 1)) := ⟨_, rfl⟩
  rw [← hROW] at hrz
  have hRs : ROW.size = G * 6 := by
    have h1 := zero38_len (l.length + 1 - i)
    have h2 := zero38_len (G - (l.length + 1))
    rw [hROW, Array.size_append, Array.size_append]
    rw [Array.length_toList] at h1 h2
    rw [h1, h2, List.size_toArray, htl]
    omega
  have hRt : ROW.toList.take (i * 6) = flatN (l.take i) := by
    rw [hROW, Array.toList_append, Array.toList_append, List.append_assoc, List.take_append_of_le_length (by simpa using Nat.le_of_eq htl.symm)]
    exact List.take_of_length_le (by simpa using Nat.le_of_eq htl)
  obtain ⟨W0, hW0⟩ : ∃ W0, W0 = w.drew.alloc (.cells ROW 38) := ⟨_, rfl⟩
  rw [← hW0] at hrz
  have hb0 : W0.heap[w.heap.size]? = some (.cells ROW 38 (0, 0)) := by rw [hW0]; exact World.alloc_heap_new w.drew _
  have hBW : Below w.heap.size w W0 := by rw [hW0]; exact (below_drew (Below.refl _ _)).alloc (Nat.le_refl _) _
  have hbg : W0.heap[g]? = some (.cells cur 38 (0, 0)) := (hBW.block g hgw).trans hb
  have hv0 : W0.heap[vb]? = some (.cells (encN x).toArray 38 (0, 0)) := (hBW.block vb hvw).trans hv
  have hgs : g ≠ w.heap.size := by omega
  obtain ⟨n1, W1, hA, hb1, hg1⟩ := copyN (W := W0) (g := w.heap.size) (o := i * 6) (dLen := l.length + 1 - i) (dCap := G - i) (sLen := 1) (sCap := 1) (a := ⟨vb, 0, none⟩) hb0 (by rw [h6]; simp only [Nat.min_def]; split <;> omega) (src_one hv0) (by rw [h6, hRs]; omega) (encN_one x)
  have hps := putL_size (cur := ROW) (o := i * 6) (cs := encN x) (by rw [h6, hRs]; omega)
  have hbg1 : W1.heap[g]? = some (.cells cur 38 (0, 0)) := (hg1.block g (Array.getElem?_eq_some_iff.1 hbg).1 (by simp; omega)).trans hbg
  obtain ⟨n2, W2, hC, hb2, hg2⟩ := copyN (W := W1.drew) (g := w.heap.size) (o := (i + 1) * 6) (dLen := l.length - i) (dCap := G - (i + 1)) (sLen := l.length - i) (sCap := l.length - i) (a := ⟨g, i * 6, none⟩) (blk_drew' hb1) (by rw [hdl]; simp) (src_of (n := l.length) (blk_drew' hbg1) rfl H) (by rw [hdl, hps, hRs]; omega) (flatN_one _)
  have hB : Below n0 w W2 := ((below_drew ((hBW.mono hn0).grown hg1 (Nat.le_trans hn0 hBW.size) (fun k hk => by injection hk with hk; omega))).grown hg2 (by have := hg1.size; have := hBW.size; simp; omega) (fun k hk => by injection hk with hk; omega))
  have hK : Keep36 n0 w W2 := (((Keep36.below hBW).trans (Keep36.grown hb0 hg1)).trans (Keep36.drew n0 W1)).trans (Keep36.grown (blk_drew' hb1) hg2)
  have hR : Kd.R k38 38 W2 n0 (fun _ => True) (.slice (some ⟨w.heap.size, 0, none⟩) (l.length + 1) G) (l.take i ++ x :: l.drop i) := by
    have hll : (l.take i ++ x :: l.drop i).length = l.length + 1 := by simp; omega
    refine R_shutN hll.symm hn0 hb2 (by omega) hGm (by rw [putL_size (by rw [hps, hRs, hdl]; omega), hps, hRs]) ?_
    rw [hll, take_putL_at (by rw [hdl]; omega) (by rw [hps, hRs]; omega), take_putL_at (by rw [h6]; omega) (by rw [hRs]; omega), hRt, flatN_append, flatN, List.append_assoc]
  clear hps hb1 hg1 hb2 hg2 hdl htl hs H hb hv hv0 hbg hbg1 h6 hb0 hBW hRs hRt hROW hold hik hgs hW0 hz0 hzs hzb hi0 hgw hvw
  have HA := Lib.hid hA; clear hA
  have HC := Lib.hid hC; clear hC
  have HR := Lib.hid hR; clear hR
  have HB := Lib.hid hB; clear hB
  have HK := Lib.hid hK; clear hK
  have HZ := Lib.hid hrz; clear hrz
  unfold maxLen at hGm
  have hz1 : ¬ ((1 : Int) = 0) := by omega
  have hz2 : ¬ ((i : Int) = (l.length : Int)) := by omega
  have hz3 : (l.length : Int) < (l.length : Int) + 1 := by omega
  have hw1 : IntKind.i64.wrap ((i : Int) + 1) = (i : Int) + 1 := by rw [IntKind.wrap_i64]; omega
  have hw2 : IntKind.i64.wrap ((l.length : Int) + 1) = (l.length : Int) + 1 := by rw [IntKind.wrap_i64]; omega
  have hw3 : IntKind.i64.wrap ((l.length : Int) + 1 - (i : Int)) = (l.length : Int) + 1 - (i : Int) := by rw [IntKind.wrap_i64]; omega
  have hb1 : (0 : Int) ≤ (i : Int) + 1 := by omega
  have hil : (i : Int) + 1 ≤ (l.length : Int) + 1 := by omega
  have hil2 : (i : Int) ≤ (l.length : Int) + 1 := by omega
  have hil3 : (i : Int) ≤ (l.length : Int) := by omega
  have htn : ((i : Int) + 1).toNat = i + 1 := by omega
  have hci : ¬ l.length = i := by omega
  have hGi : ¬ G = i := by omega
  have hGi1 : ¬ G = i + 1 := by omega
  have hic : i ≤ l.length := by omega
  go_enter Try.func42, Try.ntmps42
  have hA := HA.out
  go_wp2_with (at_builtin; refine Lib.wpList_append_run _ rfl _ _ _ _ rfl _ _ rfl rfl _ _ (HZ.out _) ?_)
  go_region_law (refine step_copy_runN rfl _ _ 22 22 rfl (.slice (some ⟨w.heap.size, (i + 1) * 6, none⟩) (l.length - i) (G - (i + 1))) (.slice (some ⟨g, i * 6, none⟩) (l.length - i) (l.length - i)) (by simp [Act.eval, Act.put]) (by simp [Act.eval, Act.put]) (HC.out _) ?_)
  go_wp2
  go_ret
  exact ⟨_, rfl, HR.out, HB.out, HK.out⟩
theorem insert_calls (A : Option Addr) (c i n0 vb : Nat) (x : S38) (l : List S38) (w : World) (h : Kd.R k38 38 w n0 (fun _ => True) (.slice A l.length c) l) (hv : w.heap[vb]? = some (.cells (encN x).toArray 38 (0, 0))) (hne : ∀ g, A = some ⟨g, 0, none⟩ → vb ≠ g) (hi : i ≤ l.length) (hl : l.length ≤ 1099511627776) (hn0 : n0 ≤ w.heap.size) :
    Calls Try.prog 42 #[.slice A l.length c, .int .i64 (i : Int), .slice (some ⟨vb, 0, none⟩) 1 1] w fun e w' => ∃ v : Value, e = .returned v ∧ Kd.R k38 38 w' n0 (fun _ => True) v (l.take i ++ x :: l.drop i) ∧ Below n0 w w' ∧ Keep36 n0 w w' := by
  rcases Nat.lt_or_ge i l.length with hlt | hge
  · rcases R_openN h with ⟨rfl, _, _⟩ | ⟨g, cur, rfl, hg, hb, hlc, hcm, hs, H⟩
    · simp at hlt
    rcases Nat.lt_or_ge l.length c with hroom | hfull
    · exact insert_room g c i n0 vb x l cur w hg hb hcm hs H hv (hne g rfl) hlt hroom hl hn0
    · obtain rfl : c = l.length := by omega
      exact insert_grow g i n0 vb x l cur w hg hb hs H hv hlt hl hn0
  · obtain rfl : i = l.length := by omega
    have := insert_end A c n0 vb x l w h hv hl hn0
    rw [List.take_length, List.drop_length]
    exact this

theorem enter40 : ∀ args w, (callFunc 40 args).run Try.prog w = .ok (.enter 40 args) w := enters_of Try.func40 (by kernel_rfl) rfl
theorem enter41 : ∀ args w, (callFunc 41 args).run Try.prog w = .ok (.enter 41 args) w := enters_of Try.func41 (by kernel_rfl) rfl
theorem enter33 : ∀ args w, (callFunc 33 args).run Try.prog w = .ok (.enter 33 args) w := enters_of Try.func33 (by kernel_rfl) rfl
theorem enter30 : ∀ args w, (callFunc 30 args).run Try.prog w = .ok (.enter 30 args) w := enters_of Try.func30 (by kernel_rfl) rfl
set_option maxRecDepth 100000 in
set_option maxHeartbeats 4000000 in
theorem wait1_calls (x : S38) (b : Nat) (n : Int) (W : World) (hc : W.cell? ⟨b, 1, none⟩ = some (.int .i64 n)) :
    Calls Try.prog 40 #[.agg #[.int .i64 x.f0, .int .i64 x.f1, .int .i64 x.f2.f0, .int .i64 x.f2.f1, .string x.f2.f2, .string x.f2.f3], .pointer (some ⟨b, 0, none⟩)] W fun e W' => e = .returned (.bool (decide (x.f1 = n))) ∧ Below W.heap.size W W' := by
  have hlt : b < W.heap.size := World.block_lt_of_cell? _ _ hc
  go_enter Try.func40, Try.ntmps40
  go_wp2
  go_ret
  exact ⟨rfl, (Below.refl _ _).alloc (Nat.le_refl _) _⟩
set_option maxRecDepth 100000 in
set_option maxHeartbeats 4000000 in
theorem wait2_calls (x : S38) (b : Nat) (n : Int) (W : World) (hc : W.cell? ⟨b, 1, none⟩ = some (.int .i64 n)) :
    Calls Try.prog 41 #[.agg #[.int .i64 x.f0, .int .i64 x.f1, .int .i64 x.f2.f0, .int .i64 x.f2.f1, .string x.f2.f2, .string x.f2.f3], .pointer (some ⟨b, 0, none⟩)] W fun e W' => e = .returned (.bool (decide (n < x.f1))) ∧ Below W.heap.size W W' := by
  have hlt : b < W.heap.size := World.block_lt_of_cell? _ _ hc
  go_enter Try.func41, Try.ntmps41
  go_wp2
  go_ret
  exact ⟨rfl, (Below.refl _ _).alloc (Nat.le_refl _) _⟩
set_option maxRecDepth 100000 in
set_option maxHeartbeats 4000000 in
theorem recv2_calls (x : S38) (b : Nat) (n : Int) (W : World) (hc : W.cell? ⟨b, 1, none⟩ = some (.int .i64 n)) :
    Calls Try.prog 33 #[.agg #[.int .i64 x.f0, .int .i64 x.f1, .int .i64 x.f2.f0, .int .i64 x.f2.f1, .string x.f2.f2, .string x.f2.f3], .pointer (some ⟨b, 0, none⟩)] W fun e W' => e = .returned (.bool (decide (x.f1 = n))) ∧ Below W.heap.size W W' := by
  have hlt : b < W.heap.size := World.block_lt_of_cell? _ _ hc
  go_enter Try.func33, Try.ntmps33
  go_wp2
  go_ret
  exact ⟨rfl, (Below.refl _ _).alloc (Nat.le_refl _) _⟩
def idx0 (p : S38 → Bool) (l : List S38) : Nat := l.findIdx p
theorem idxN_find (p : S38 → Bool) : ∀ (l : List S38) (k : Nat), idxN p l k = if l.any p then ((k + l.findIdx p : Nat) : Int) else -1
  | [], k => rfl
  | x :: r, k => by
    rw [idxN, List.any_cons, List.findIdx_cons]
    by_cases h : p x = true
    · simp [h]
    · have h' : p x = false := by simpa using h
      rw [if_neg (by rw [h']; decide), idxN_find p r (k + 1), h']
      simp only [Bool.false_or, cond_false]
      split
      · congr 1; omega
      · rfl
set_option maxRecDepth 100000 in
set_option maxHeartbeats 4000000 in
theorem contains_calls (F : Nat) (b : Nat) (p : S38 → Bool) (A : Option Addr) (c : Nat) (l : List S38) (w : World) (hC : Kd.C k38 w A l.length l) (hl : l.length ≤ 1099511627776) (hE : ∀ args w, (callFunc F args).run Try.prog w = .ok (.enter F args) w)
    (hP : ∀ (x : S38) (W : World), Below w.heap.size w W → Calls Try.prog F #[.agg #[.int .i64 x.f0, .int .i64 x.f1, .int .i64 x.f2.f0, .int .i64 x.f2.f1, .string x.f2.f2, .string x.f2.f3], .pointer (some ⟨b, 0, none⟩)] W fun e W' => e = .returned (.bool (p x)) ∧ Below W.heap.size W W') :
    Calls Try.prog 39 #[.slice A l.length c, .func (.func F) #[] #[.pointer (some ⟨b, 0, none⟩)]] w fun e w' => e = .returned (.bool (l.any p)) ∧ Below w.heap.size w w' := by
  have hcon := index_calls F b p A c l w hC hl hE hP
  have HCON := Lib.hid hcon; clear hcon hE
  have hid := idxN_find p l 0
  by_cases h : l.any p = true
  · rw [if_pos h] at hid
    rw [h]
    rw [hid] at HCON
    have hge : (0 : Int) ≤ ((0 + l.findIdx p : Nat) : Int) := by omega
    generalize ((0 + l.findIdx p : Nat) : Int) = q at HCON hge
    clear h hid
    go_enter Try.func39, Try.ntmps39
    go_wp2_with fail
    refine HCON.out.mono ?_
    rintro e w1 ⟨rfl, hB⟩
    go_wp2
    go_ret
    exact ⟨rfl, hB⟩
  · rw [if_neg h] at hid
    rw [Bool.eq_false_iff.2 h]
    rw [hid] at HCON
    clear h hid
    go_enter Try.func39, Try.ntmps39
    go_wp2_with fail
    refine HCON.out.mono ?_
    rintro e w1 ⟨rfl, hB⟩
    go_wp2
    go_ret
    exact ⟨rfl, hB⟩
/-- what wait returns -/
def waitL (l : List S38) (m : S38) : List S38 := if l.any (fun y => decide (y.f1 = m.f1)) then l else if l.any (fun y => decide (m.f1 < y.f1)) then l.take (l.findIdx fun y => decide (m.f1 < y.f1)) ++ m :: l.drop (l.findIdx fun y => decide (m.f1 < y.f1)) else l ++ [m]
set_option maxRecDepth 100000 in
set_option maxHeartbeats 4000000 in
theorem wait_calls (A : Option Addr) (c n0 : Nat) (l : List S38) (m : S38) (w : World) (h : Kd.R k38 38 w n0 (fun _ => True) (.slice A l.length c) l) (hl : l.length ≤ 1099511627776) (hn0 : n0 ≤ w.heap.size) :
    Calls Try.prog 31 #[.slice A l.length c, .agg #[.int .i64 m.f0, .int .i64 m.f1, .int .i64 m.f2.f0, .int .i64 m.f2.f1, .string m.f2.f2, .string m.f2.f3]] w fun e w' => ∃ v : Value, e = .returned v ∧ Kd.R k38 38 w' n0 (fun _ => True) v (waitL l m) ∧ Below n0 w w' ∧ Keep36 n0 w w' := by
  have HR := Lib.hid h
  obtain ⟨A', c', he, hlc, hC⟩ := Kd.R_reads h
  obtain ⟨rfl, rfl⟩ : A = A' ∧ c = c' := by injection he with h1 _ h2; exact ⟨h1, h2⟩
  clear h he
  have hbx : (w.alloc (.cells (encN m).toArray 38)).heap[w.heap.size]? = some (.cells (encN m).toArray 38 (0, 0)) := World.alloc_heap_new w _
  have hB0 : Below w.heap.size w (w.alloc (.cells (encN m).toArray 38)) := (Below.refl _ _).alloc (Nat.le_refl _) _
  have hs0 : (w.alloc (.cells (encN m).toArray 38)).heap.size = w.heap.size + 1 := by simp
  have hW0 : w.alloc (.cells (encN m).toArray 38) = w.alloc (.cells #[.int .i64 m.f0, .int .i64 m.f1, .int .i64 m.f2.f0, .int .i64 m.f2.f1, .string m.f2.f2, .string m.f2.f3] 38) := rfl
  generalize w.alloc (.cells (encN m).toArray 38) = W0 at hbx hB0 hs0 hW0
  have hcon := contains_calls 40 w.heap.size (fun y => decide (y.f1 = m.f1)) A c l W0 (Kd.C_below hC hB0) hl enter40 (fun x W hB => wait1_calls x _ m.f1 W (blk_cell (blk_below hbx hB) 1))
  rw [hW0] at hcon
  have HCON := Lib.hid hcon; clear hcon
  have HC := Lib.hid hC; clear hC
  have HBX := Lib.hid hbx; clear hbx
  have HB0 := Lib.hid hB0; clear hB0
  have HW0 := Lib.hid hW0; clear hW0
  have HS0 := Lib.hid hs0; clear hs0
  by_cases h1 : l.any (fun y => decide (y.f1 = m.f1)) = true
  · have HL := Lib.hid (show waitL l m = l from if_pos h1)
    rw [h1] at HCON; clear h1
    go_enter Try.func31, Try.ntmps31
    go_wp2_with fail
    refine HCON.out.mono ?_
    rintro e w1 ⟨rfl, hB⟩
    have HB := Lib.hid hB; clear hB
    go_wp2
    go_ret
    have hb2 : Below n0 w w1 := by
      have := HB.out
      rw [← HW0.out] at this
      exact (HB0.out.mono hn0).trans (this.mono (by rw [HS0.out]; omega))
    have hb3 : Below w.heap.size w w1 := by
      have := HB.out
      rw [← HW0.out] at this
      exact HB0.out.trans (this.mono (by rw [HS0.out]; omega))
    exact ⟨_, rfl, by rw [HL.out]; exact Kd.R_below HR.out hb3, hb2, Keep36.below hb3⟩
  · have h1' : l.any (fun y => decide (y.f1 = m.f1)) = false := Bool.eq_false_iff.2 h1
    have hi2 := idxN_find (fun y => decide (m.f1 < y.f1)) l 0
    rw [h1'] at HCON; clear h1
    go_enter Try.func31, Try.ntmps31
    go_wp2_with fail
    refine HCON.out.mono ?_
    rintro e w1 ⟨rfl, hB⟩
    rw [← HW0.out] at hB
    have HB1 := Lib.hid (HB0.out.trans (hB.mono (by rw [HS0.out]; omega)))
    have HBX1 := Lib.hid (blk_below HBX.out hB)
    clear hB
    have hcon := index_calls 41 w.heap.size (fun y => decide (m.f1 < y.f1)) A c l w1 (Kd.C_below HC.out HB1.out) hl enter41 (fun x W hB => wait2_calls x _ m.f1 W (blk_cell (blk_below HBX1.out hB) 1))
    have HCON2 := Lib.hid hcon; clear hcon
    by_cases h2 : l.any (fun y => decide (m.f1 < y.f1)) = true
    · have HL := Lib.hid (show waitL l m = l.take (l.findIdx fun y => decide (m.f1 < y.f1)) ++ m :: l.drop (l.findIdx fun y => decide (m.f1 < y.f1)) from by rw [waitL, h1', if_neg (by decide), if_pos h2])
      rw [if_pos h2, Nat.zero_add] at hi2
      have hil : l.findIdx (fun y => decide (m.f1 < y.f1)) ≤ l.length := List.findIdx_le_length
      rw [hi2] at HCON2
      generalize l.findIdx (fun y => decide (m.f1 < y.f1)) = q at HCON2 HL hil
      clear hi2 h2 h1'
      go_wp2_with fail
      refine HCON2.out.mono ?_
      rintro e w2 ⟨rfl, hB⟩
      have HB2 := Lib.hid (HB1.out.trans (hB.mono HB1.out.size))
      have HBX2 := Lib.hid (blk_below HBX1.out hB)
      clear hB
      have hx0 : w2.cell? ⟨w.heap.size, 0, none⟩ = some (.int .i64 m.f0) := blk_cell HBX2.out 0
      have hx1 : w2.cell? ⟨w.heap.size, 1, none⟩ = some (.int .i64 m.f1) := blk_cell HBX2.out 1
      have hx2 : w2.cell? ⟨w.heap.size, 2, none⟩ = some (.int .i64 m.f2.f0) := blk_cell HBX2.out 2
      have hx3 : w2.cell? ⟨w.heap.size, 3, none⟩ = some (.int .i64 m.f2.f1) := blk_cell HBX2.out 3
      have hx4 : w2.cell? ⟨w.heap.size, 4, none⟩ = some (.string m.f2.f2) := blk_cell HBX2.out 4
      have hx5 : w2.cell? ⟨w.heap.size, 5, none⟩ = some (.string m.f2.f3) := blk_cell HBX2.out 5
      have hqn : ¬ ((q : Int) < 0) := by omega
      go_wp2_with fail
      have hbv : (w2.alloc (.cells (encN m).toArray 38)).heap[w2.heap.size]? = some (.cells (encN m).toArray 38 (0, 0)) := World.alloc_heap_new w2 _
      have hB3 : Below w.heap.size w (w2.alloc (.cells (encN m).toArray 38)) := HB2.out.alloc HB2.out.size _
      refine (insert_calls A c q n0 w2.heap.size m l _ (Kd.R_below HR.out hB3) hbv (fun g hg => ?_) hil hl (Nat.le_trans hn0 hB3.size)).mono ?_
      · have := Kd.R_bound HR.out
        have := this.1 g (by rw [hg]; rfl)
        have := HB2.out.size
        omega
      rintro e w3 ⟨v, rfl, hR3, hB4, hK4⟩
      go_wp2
      go_ret
      exact ⟨_, rfl, by rw [HL.out]; exact hR3, (hB3.mono hn0).trans hB4, (Keep36.below hB3).trans hK4⟩
    · have h2' : l.any (fun y => decide (m.f1 < y.f1)) = false := Bool.eq_false_iff.2 h2
      have HL := Lib.hid (show waitL l m = l.take l.length ++ m :: l.drop l.length from by rw [waitL, h1', if_neg (by decide), if_neg h2, List.take_length, List.drop_length])
      rw [if_neg h2] at hi2
      rw [hi2] at HCON2
      clear hi2 h2 h1' h2'
      go_wp2_with fail
      refine HCON2.out.mono ?_
      rintro e w2 ⟨rfl, hB⟩
      have HB2 := Lib.hid (HB1.out.trans (hB.mono HB1.out.size))
      have HBX2 := Lib.hid (blk_below HBX1.out hB)
      clear hB
      have hx0 : w2.cell? ⟨w.heap.size, 0, none⟩ = some (.int .i64 m.f0) := blk_cell HBX2.out 0
      have hx1 : w2.cell? ⟨w.heap.size, 1, none⟩ = some (.int .i64 m.f1) := blk_cell HBX2.out 1
      have hx2 : w2.cell? ⟨w.heap.size, 2, none⟩ = some (.int .i64 m.f2.f0) := blk_cell HBX2.out 2
      have hx3 : w2.cell? ⟨w.heap.size, 3, none⟩ = some (.int .i64 m.f2.f1) := blk_cell HBX2.out 3
      have hx4 : w2.cell? ⟨w.heap.size, 4, none⟩ = some (.string m.f2.f2) := blk_cell HBX2.out 4
      have hx5 : w2.cell? ⟨w.heap.size, 5, none⟩ = some (.string m.f2.f3) := blk_cell HBX2.out 5
      go_wp2_with fail
      have hbv : (w2.alloc (.cells (encN m).toArray 38)).heap[w2.heap.size]? = some (.cells (encN m).toArray 38 (0, 0)) := World.alloc_heap_new w2 _
      have hB3 : Below w.heap.size w (w2.alloc (.cells (encN m).toArray 38)) := HB2.out.alloc HB2.out.size _
      refine (insert_calls A c l.length n0 w2.heap.size m l _ (Kd.R_below HR.out hB3) hbv (fun g hg => ?_) (Nat.le_refl _) hl (Nat.le_trans hn0 hB3.size)).mono ?_
      · have := Kd.R_bound HR.out
        have := this.1 g (by rw [hg]; rfl)
        have := HB2.out.size
        omega
      rintro e w3 ⟨v, rfl, hR3, hB4, hK4⟩
      go_wp2
      go_ret
      exact ⟨_, rfl, by rw [HL.out]; exact hR3, (hB3.mono hn0).trans hB4, (Keep36.below hB3).trans hK4⟩

theorem R_apart {w w' : World} {n0 : Nat} {v1 v2 : Value} {l1 : List S36} {l2 : List S38} (h1 : Kd.R k36 36 w n0 (fun _ => True) v1 l1) (h2 : Kd.R k38 38 w n0 (fun _ => True) v2 l2) (hg : w.grownBy w' v1.ownBlock) : Kd.R k38 38 w' n0 (fun _ => True) v2 l2 := by
  obtain ⟨_, inner, ho, _⟩ := h1
  rcases hv : v1.ownBlock with _ | g
  · exact Kd.R_grown h2 hg (fun k _ => by rw [hv]; simp)
  · obtain ⟨cells, hc⟩ := own_typed ho g hv
    exact Kd.R_mono (Kd.R_grown (Kd.R_types h2 hc (by decide)) hg (fun k hk => by rw [hv]; simp; exact hk.2)) (fun _ _ => trivial)
theorem R_apart' {w w' : World} {n0 : Nat} {v1 v2 : Value} {l1 : List S38} {l2 : List S36} (h1 : Kd.R k38 38 w n0 (fun _ => True) v1 l1) (h2 : Kd.R k36 36 w n0 (fun _ => True) v2 l2) (hg : w.grownBy w' v1.ownBlock) : Kd.R k36 36 w' n0 (fun _ => True) v2 l2 := by
  obtain ⟨_, inner, ho, _⟩ := h1
  rcases hv : v1.ownBlock with _ | g
  · exact Kd.R_grown h2 hg (fun k _ => by rw [hv]; simp)
  · obtain ⟨cells, hc⟩ := own_typed ho g hv
    exact Kd.R_mono (Kd.R_grown (Kd.R_types h2 hc (by decide)) hg (fun k hk => by rw [hv]; simp; exact hk.2)) (fun _ _ => trivial)
/-- the receiver's box and what is its own -/
structure InR (w0 : World) (B β : Nat) (u n : Int) (lg : List S36) (le : List S38) (Z : Obj) (w : World) (vg ve : Value) : Prop where
  x : w.heap[B]? = some (.cells #[.int .i64 u, .int .i64 n, vg, ve] 34 (0, 0))
  z : w.heap[B + 2]? = some Z
  g : Kd.R k36 36 w β (fun _ => True) vg lg
  e : Kd.R k38 38 w β (fun _ => True) ve le
  b : Below B w0 w
  q : B + 3 ≤ β
  s : β ≤ w.heap.size
set_option maxRecDepth 100000 in
set_option maxHeartbeats 4000000 in
theorem accept_calls (w0 : World) (B β : Nat) (u n : Int) (lg : List S36) (le : List S38) (Z : Obj) (w : World) (vg ve : Value) (a : S36) (h : InR w0 B β u n lg le Z w vg ve) (hl : lg.length ≤ 1099511627776) :
    Calls Try.prog 30 #[.agg #[.int .i64 a.f0, .int .i64 a.f1, .string a.f2, .string a.f3], .pointer (some ⟨B, 0, none⟩)] w fun e w' => e = .returned (.tuple #[]) ∧ ∃ vg', InR w0 B β u (wrap64 (n + 1)) (lg ++ [a]) le Z w' vg' ve := by
  obtain ⟨hx, hz, hg, he, hb, hβ, hs⟩ := h
  have hB : B < w.heap.size := by omega
  obtain ⟨A, c, rfl⟩ := Kd.R_slice hg
  have c1 : w.cell? ⟨B, 1, none⟩ = some (.int .i64 n) := blk_cell hx 1
  have c2 : w.cell? ⟨B, 2, none⟩ = some (.slice A lg.length c) := blk_cell hx 2
  have HX := Lib.hid hx; clear hx
  have HZ := Lib.hid hz; clear hz
  have HG := Lib.hid hg; clear hg
  have HE := Lib.hid he; clear he
  have HB := Lib.hid hb; clear hb
  go_enter Try.func30, Try.ntmps30
  have hbx : ((w.alloc (.cells #[.int .i64 a.f0, .int .i64 a.f1, .string a.f2, .string a.f3] 36)).alloc (.cells #[.int .i64 a.f0, .int .i64 a.f1, .string a.f2, .string a.f3] 36)).heap[w.heap.size + 1]? = some (.cells #[.int .i64 a.f0, .int .i64 a.f1, .string a.f2, .string a.f3] 36 (0, 0)) := by
    have := World.alloc_heap_new (w.alloc (.cells #[.int .i64 a.f0, .int .i64 a.f1, .string a.f2, .string a.f3] 36)) (.cells #[.int .i64 a.f0, .int .i64 a.f1, .string a.f2, .string a.f3] 36)
    rwa [World.size_alloc] at this
  have hB2 : Below w.heap.size w ((w.alloc (.cells #[.int .i64 a.f0, .int .i64 a.f1, .string a.f2, .string a.f3] 36)).alloc (.cells #[.int .i64 a.f0, .int .i64 a.f1, .string a.f2, .string a.f3] 36)) := ((Below.refl _ _).alloc (Nat.le_refl _) _).alloc (by simp) _
  have hC : Kd.C k36 ((w.alloc (.cells #[.int .i64 a.f0, .int .i64 a.f1, .string a.f2, .string a.f3] 36)).alloc (.cells #[.int .i64 a.f0, .int .i64 a.f1, .string a.f2, .string a.f3] 36)) (some ⟨w.heap.size + 1, 0, none⟩) ([a] : List S36).length [a] := by
    refine ⟨rfl, by simp, fun _ => ⟨_, rfl, fun j p hj => ?_⟩⟩
    match j, hj with
    | 0, hj =>
      obtain rfl : a = p := by simpa using hj
      refine ⟨[.int .i64 a.f0, .int .i64 a.f1, .string a.f2, .string a.f3], rfl, k36_mk _ _, fun i u hu => ?_⟩
      rw [Addr.add_lit, blk_cell hbx]
      simpa using hu
    | j + 1, hj => simp at hj
  have HC := Lib.hid hC; clear hC hbx
  have HB2 := Lib.hid hB2; clear hB2
  go_wp2_with (at_builtin; refine Kd.R_append_rows k36 (w0 := w) β rfl (.tmp 4) (.tmp 6) 25 36 _ 48 rfl Try.underlying25 info36 rfl (by decide) (by decide) _ lg [a] (some ⟨w.heap.size + 1, 0, none⟩) 1 1 (fun _ => True) (fun _ => False) rfl rfl (Kd.R_below HG.out HB2.out) HC.out (fun x cs h => by rw [k36_open h]; exact k36_mkM _ _ _ _) (fun _ h => h.elim) (fun _ _ => trivial) (HB2.out.mono hs) (Nat.le_trans hs HB2.out.size) (by omega) ?_; intro v1 w1 ho hb1 hg1 hat1; obtain ⟨A1, C1, rfl⟩ := Kd.R_slice ho; clear hat1; have hx1 : w1.heap[B]? = some (.cells #[.int .i64 u, .int .i64 n, .slice A lg.length c, ve] 34 (0, 0)) := (hb1.block B (by omega)).trans HX.out; have hz1 : w1.heap[B + 2]? = some Z := (hb1.block (B + 2) (by omega)).trans HZ.out; have he1 := R_apart (Kd.R_below HG.out HB2.out) (Kd.R_below HE.out HB2.out) hg1; have hBB : Below B w0 w1 := HB.out.trans (hb1.mono (by omega)); have d1 : w1.cell? ⟨B, 1, none⟩ = some (.int .i64 n) := blk_cell hx1 1; have d2 : w1.cell? ⟨B, 2, none⟩ = some (.slice A lg.length c) := blk_cell hx1 2; have f1 := blk_frozen hx1 1; have f2 := blk_frozen hx1 2; have hs1 : β ≤ w1.heap.size := Nat.le_trans hs hb1.size; have hB1 : B < w1.heap.size := (by omega); have HX1 := Lib.hid hx1; clear hx1; have HZ1 := Lib.hid hz1; clear hz1; have HE1 := Lib.hid he1; clear he1; have HBB := Lib.hid hBB; clear hBB; have HO := Lib.hid ho; clear ho; clear hb1 hg1 c1 c2)
  go_end0
  rw [show lg.length + 1 = (lg ++ [a]).length by simp]
  refine ⟨rfl, .slice A1 (lg ++ [a]).length C1, ?_⟩
  have hxx : _ = some (Obj.cells #[.int .i64 u, .int .i64 (wrap64 (n + 1)), .slice A1 (lg ++ [a]).length C1, ve] 34 (0, 0)) := blk_put (blk_put HX1.out 2 (.slice A1 (lg ++ [a]).length C1) rfl) 1 (.int .i64 (wrap64 (n + 1))) rfl
  refine ⟨hxx, ?_, ?_, ?_, ?_, hβ, ?_⟩
  · rw [Below.heap_setCell _ _ _ _ (by simp), Below.heap_setCell _ _ _ _ (by simp)]; exact HZ1.out
  · exact Kd.R_set (Kd.R_set HO.out HX1.out (by decide) 2 (.slice A1 (lg ++ [a]).length C1)) (blk_put HX1.out 2 (.slice A1 (lg ++ [a]).length C1) rfl) (by decide) 1 _
  · exact Kd.R_set (Kd.R_set HE1.out HX1.out (by decide) 2 (.slice A1 (lg ++ [a]).length C1)) (blk_put HX1.out 2 (.slice A1 (lg ++ [a]).length C1) rfl) (by decide) 1 _
  · exact (HBB.out.setCell (by simp) _).setCell (by simp) _
  · simpa using hs1

theorem put4_keep {w : World} {k B : Nat} {o : Obj} (h : w.heap[k]? = some o) (hne : k ≠ B) (a b c d : Value) : ((((w.setCell ⟨B, 0, none⟩ a).setCell ⟨B, 1, none⟩ b).setCell ⟨B, 2, none⟩ c).setCell ⟨B, 3, none⟩ d).heap[k]? = some o := by
  rw [Below.heap_setCell _ _ _ _ hne, Below.heap_setCell _ _ _ _ hne, Below.heap_setCell _ _ _ _ hne, Below.heap_setCell _ _ _ _ hne]
  exact h
theorem put4_ret {w : World} {B : Nat} {p q r s : Value} (h : w.heap[B]? = some (.cells #[p, q, r, s] 34 (0, 0))) (a b c d : Value) : ((((w.setCell ⟨B, 0, none⟩ a).setCell ⟨B, 1, none⟩ b).setCell ⟨B, 2, none⟩ c).setCell ⟨B, 3, none⟩ d).heap[B]? = some (.cells #[a, b, c, d] 34 (0, 0)) :=
  blk_put (blk_put (blk_put (blk_put h 0 a rfl) 1 b rfl) 2 c rfl) 3 d rfl
/-- what comes in order is taken -/
def acceptL : Nat → Int → List S36 → List S38 → Int × List S36 × List S38
  | 0, n, g, e => (n, g, e)
  | k + 1, n, g, e => if e.any (fun y => decide (y.f1 = n)) then acceptL k (wrap64 (n + 1)) (g ++ [(e.getD (e.findIdx fun y => decide (y.f1 = n)) z38).f2]) (e.take (e.findIdx fun y => decide (y.f1 = n)) ++ e.drop (e.findIdx (fun y => decide (y.f1 = n)) + 1)) else (n, g, e)
def notify_Receive.f (a0_0 : Int) (a0_1 : Int) (l0_2 : List S36) (l0_3 : List S38) (a1_0 : Int) (a1_1 : Int) (a1_2 : Int) (a1_3 : Int) (a1_4 : ByteArray) (a1_5 : ByteArray) : Option (Int × Int × (List S36) × (List S38) × Int) :=
  if l0_2.length + l0_3.length < 1099511627776 then
    (if a1_0 ≠ a0_0 ∨ a1_1 < a0_1 then some (a0_0, a0_1, l0_2, l0_3, wrap64 (a0_1 - 1))
     else if a0_1 < a1_1 then some (a0_0, a0_1, l0_2, waitL l0_3 ⟨a1_0, a1_1, ⟨a1_2, a1_3, a1_4, a1_5⟩⟩, wrap64 (a0_1 - 1))
     else some (a0_0, (acceptL l0_3.length (wrap64 (a0_1 + 1)) (l0_2 ++ [⟨a1_2, a1_3, a1_4, a1_5⟩]) l0_3).1, (acceptL l0_3.length (wrap64 (a0_1 + 1)) (l0_2 ++ [⟨a1_2, a1_3, a1_4, a1_5⟩]) l0_3).2.1, (acceptL l0_3.length (wrap64 (a0_1 + 1)) (l0_2 ++ [⟨a1_2, a1_3, a1_4, a1_5⟩]) l0_3).2.2, wrap64 ((acceptL l0_3.length (wrap64 (a0_1 + 1)) (l0_2 ++ [⟨a1_2, a1_3, a1_4, a1_5⟩]) l0_3).1 - 1)))
  else none
set_option maxRecDepth 100000 in
set_option maxHeartbeats 8000000 in
theorem recv_early (a0_0 : Int) (a0_1 : Int) (P0_2_ : Nat → Prop) (A0_2 : Option Addr) (c0_2 : Nat) (l0_2 : List (S36)) (P0_3_ : Nat → Prop) (A0_3 : Option Addr) (c0_3 : Nat) (l0_3 : List (S38)) (a1_0 : Int) (a1_1 : Int) (a1_2 : Int) (a1_3 : Int) (a1_4 : ByteArray) (a1_5 : ByteArray) (r1 : Int) (r2 : Int) (r3 : List (S36)) (r4 : List (S38)) (r5 : Int) (w : World)
    (hs0_2 : Kd.V k36 36 w w.heap.size (fun k_ => P0_2_ k_) (.slice A0_2 l0_2.length c0_2) l0_2) (hs0_3 : Kd.V k38 38 w w.heap.size (fun k_ => P0_3_ k_) (.slice A0_3 l0_3.length c0_3) l0_3) (c1 : a1_0 ≠ a0_0 ∨ a1_1 < a0_1) (h : notify_Receive.f a0_0 a0_1 l0_2 l0_3 a1_0 a1_1 a1_2 a1_3 a1_4 a1_5 = some (r1, r2, r3, r4, r5)) :
    Calls Try.prog 15 #[.agg #[.int .i64 a0_0, .int .i64 a0_1, .slice A0_2 l0_2.length c0_2, .slice A0_3 l0_3.length c0_3], .agg #[.int .i64 a1_0, .int .i64 a1_1, .int .i64 a1_2, .int .i64 a1_3, .string a1_4, .string a1_5]] w fun e w' => ∃ v2_ v3_ : Value, e = .returned (.tuple #[.agg #[.int .i64 r1, .int .i64 r2, v2_, v3_], .int .i64 r5]) ∧ Kd.V k36 36 w' w.heap.size (fun k_ => ((P0_2_ k_ ∨ P0_3_ k_) ∨ w.heap.size ≤ k_)) v2_ r3 ∧ Kd.V k38 38 w' w.heap.size (fun k_ => ((P0_2_ k_ ∨ P0_3_ k_) ∨ w.heap.size ≤ k_)) v3_ r4 ∧ Below w.heap.size w w' := by
  unfold notify_Receive.f at h
  by_cases hl : l0_2.length + l0_3.length < 1099511627776
  case neg => rw [if_neg hl] at h; cases h
  rw [if_pos hl] at h
  obtain ⟨_, hcg, hCg⟩ := Kd.V_reads' hs0_2
  obtain ⟨_, hce, hCe⟩ := Kd.V_reads' hs0_3
  have HV2 := Lib.hid hs0_2; clear hs0_2
  have HV3 := Lib.hid hs0_3; clear hs0_3
  have HCg := Lib.hid hCg; clear hCg
  have HCe := Lib.hid hCe; clear hCe
  have H := Lib.hid h; clear h
  have h := H.out
  rw [if_pos c1] at h
  simp only [Option.some.injEq, Prod.mk.injEq] at h
  obtain ⟨rfl, rfl, rfl, rfl, rfl⟩ := h
  clear H
  have hx : (((w.alloc (.cells #[.int .i64 a0_0, .int .i64 a0_1, .slice A0_2 l0_2.length c0_2, .slice A0_3 l0_3.length c0_3] 34)).alloc (.cells #[.int .i64 a1_0, .int .i64 a1_1, .int .i64 a1_2, .int .i64 a1_3, .string a1_4, .string a1_5] 38)).alloc (.cells #[.int .i64 0, .int .i64 0, .slice none 0 0, .slice none 0 0] 34)).heap[w.heap.size]? = some (.cells #[.int .i64 a0_0, .int .i64 a0_1, .slice A0_2 l0_2.length c0_2, .slice A0_3 l0_3.length c0_3] 34 (0, 0)) := blk_alloc (blk_alloc (World.alloc_heap_new w _) _) _
  have hm : (((w.alloc (.cells #[.int .i64 a0_0, .int .i64 a0_1, .slice A0_2 l0_2.length c0_2, .slice A0_3 l0_3.length c0_3] 34)).alloc (.cells #[.int .i64 a1_0, .int .i64 a1_1, .int .i64 a1_2, .int .i64 a1_3, .string a1_4, .string a1_5] 38)).alloc (.cells #[.int .i64 0, .int .i64 0, .slice none 0 0, .slice none 0 0] 34)).heap[w.heap.size + 1]? = some (.cells #[.int .i64 a1_0, .int .i64 a1_1, .int .i64 a1_2, .int .i64 a1_3, .string a1_4, .string a1_5] 38 (0, 0)) := blk_alloc (by have := World.alloc_heap_new (w.alloc (.cells #[.int .i64 a0_0, .int .i64 a0_1, .slice A0_2 l0_2.length c0_2, .slice A0_3 l0_3.length c0_3] 34)) (.cells #[.int .i64 a1_0, .int .i64 a1_1, .int .i64 a1_2, .int .i64 a1_3, .string a1_4, .string a1_5] 38); rwa [World.size_alloc] at this) _
  have hz : (((w.alloc (.cells #[.int .i64 a0_0, .int .i64 a0_1, .slice A0_2 l0_2.length c0_2, .slice A0_3 l0_3.length c0_3] 34)).alloc (.cells #[.int .i64 a1_0, .int .i64 a1_1, .int .i64 a1_2, .int .i64 a1_3, .string a1_4, .string a1_5] 38)).alloc (.cells #[.int .i64 0, .int .i64 0, .slice none 0 0, .slice none 0 0] 34)).heap[w.heap.size + 1 + 1]? = some (.cells #[.int .i64 0, .int .i64 0, .slice none 0 0, .slice none 0 0] 34 (0, 0)) := by have := World.alloc_heap_new ((w.alloc (.cells #[.int .i64 a0_0, .int .i64 a0_1, .slice A0_2 l0_2.length c0_2, .slice A0_3 l0_3.length c0_3] 34)).alloc (.cells #[.int .i64 a1_0, .int .i64 a1_1, .int .i64 a1_2, .int .i64 a1_3, .string a1_4, .string a1_5] 38)) (.cells #[.int .i64 0, .int .i64 0, .slice none 0 0, .slice none 0 0] 34); rwa [World.size_alloc, World.size_alloc] at this
  have hbq : Below w.heap.size w (((w.alloc (.cells #[.int .i64 a0_0, .int .i64 a0_1, .slice A0_2 l0_2.length c0_2, .slice A0_3 l0_3.length c0_3] 34)).alloc (.cells #[.int .i64 a1_0, .int .i64 a1_1, .int .i64 a1_2, .int .i64 a1_3, .string a1_4, .string a1_5] 38)).alloc (.cells #[.int .i64 0, .int .i64 0, .slice none 0 0, .slice none 0 0] 34)) := (((Below.refl _ _).alloc (Nat.le_refl _) _).alloc (by simp) _).alloc (by simp; omega) _
  have hsq : (((w.alloc (.cells #[.int .i64 a0_0, .int .i64 a0_1, .slice A0_2 l0_2.length c0_2, .slice A0_3 l0_3.length c0_3] 34)).alloc (.cells #[.int .i64 a1_0, .int .i64 a1_1, .int .i64 a1_2, .int .i64 a1_3, .string a1_4, .string a1_5] 38)).alloc (.cells #[.int .i64 0, .int .i64 0, .slice none 0 0, .slice none 0 0] 34)).heap.size = w.heap.size + 3 := by simp
  have HX := Lib.hid hx; clear hx
  have HM := Lib.hid hm; clear hm
  have HZ := Lib.hid hz; clear hz
  have HB := Lib.hid hbq; clear hbq
  have HS := Lib.hid hsq; clear hsq
  have c3 : a1_0 = a0_0 → a1_1 < a0_1 := fun e => c1.elim (fun h => absurd e h) id
  have C3 := Lib.hid c3
  clear c3 c1
  go_enter Try.func15, Try.ntmps15
  go_upto_region 1 with (fail)
  generalize (((w.alloc (.cells #[.int .i64 a0_0, .int .i64 a0_1, .slice A0_2 l0_2.length c0_2, .slice A0_3 l0_3.length c0_3] 34)).alloc (.cells #[.int .i64 a1_0, .int .i64 a1_1, .int .i64 a1_2, .int .i64 a1_3, .string a1_4, .string a1_5] 38)).alloc (.cells #[.int .i64 0, .int .i64 0, .slice none 0 0, .slice none 0 0] 34)) = wq at HX HM HZ HB HS ⊢
  have zx0 : wq.cell? ⟨w.heap.size, 0, none⟩ = some (.int .i64 a0_0) := blk_cell HX.out 0
  have zx1 : wq.cell? ⟨w.heap.size, 1, none⟩ = some (.int .i64 a0_1) := blk_cell HX.out 1
  have zm0 : wq.cell? ⟨w.heap.size + 1, 0, none⟩ = some (.int .i64 a1_0) := blk_cell HM.out 0
  have zm1 : wq.cell? ⟨w.heap.size + 1, 1, none⟩ = some (.int .i64 a1_1) := blk_cell HM.out 1
  have hne1 : w.heap.size ≠ w.heap.size + 1 + 1 := by omega
  have hle1 : w.heap.size ≤ w.heap.size + 1 + 1 := by omega
  by_cases c2 : a1_0 = a0_0
  · have c4 := C3.out c2
    clear C3
    go_wp2_with fail
    clear zx0 zx1 zm0 zm1 c2 c4
    have zx0 : wq.cell? ⟨w.heap.size, 0, none⟩ = some (.int .i64 a0_0) := blk_cell HX.out 0
    have zx1 : wq.cell? ⟨w.heap.size, 1, none⟩ = some (.int .i64 a0_1) := blk_cell HX.out 1
    have zx2 : wq.cell? ⟨w.heap.size, 2, none⟩ = some (.slice A0_2 l0_2.length c0_2) := blk_cell HX.out 2
    have zx3 : wq.cell? ⟨w.heap.size, 3, none⟩ = some (.slice A0_3 l0_3.length c0_3) := blk_cell HX.out 3
    have zz0 : wq.cell? ⟨w.heap.size + 1 + 1, 0, none⟩ = some (.int .i64 0) := blk_cell HZ.out 0
    have zz1 : wq.cell? ⟨w.heap.size + 1 + 1, 1, none⟩ = some (.int .i64 0) := blk_cell HZ.out 1
    have zz2 : wq.cell? ⟨w.heap.size + 1 + 1, 2, none⟩ = some (.slice none 0 0) := blk_cell HZ.out 2
    have zz3 : wq.cell? ⟨w.heap.size + 1 + 1, 3, none⟩ = some (.slice none 0 0) := blk_cell HZ.out 3
    have zf0 := blk_frozen HZ.out 0
    have zf1 := blk_frozen HZ.out 1
    have zf2 := blk_frozen HZ.out 2
    have zf3 := blk_frozen HZ.out 3
    refine start_ (n := 6) (S := fun w' => w'.cell? ⟨w.heap.size, 0, none⟩ = some (.int .i64 a0_0) ∧ w'.cell? ⟨w.heap.size, 1, none⟩ = some (.int .i64 a0_1) ∧ w'.cell? ⟨w.heap.size, 2, none⟩ = some (.slice A0_2 l0_2.length c0_2) ∧ w'.cell? ⟨w.heap.size, 3, none⟩ = some (.slice A0_3 l0_3.length c0_3)) (ds := []) #[false, false, false, false, false, false] (by kernel_rfl) rfl rfl ⟨zx0, zx1, zx2, zx3⟩ (fun hHeld => ?_)
    refine pure_ (i := 1) (N := some 22) (v := ?_) (a' := ?_) #[false, true, false, false, false, false] rfl rfl (by kernel_rfl) (fun _ _ _ h => h) (Or.inl ⟨by rfl, ?_⟩) ?_ ?_
    rotate_left
    · intro w'
      go_simp
      with_reducible rfl
    rotate_left
    · simp only [Act.put, List.setIfInBounds_toArray, List.set_cons_zero, List.set_cons_succ, i64_w, i32_w]
      rfl
    refine take_ (i := 0) (N := some 21) (v := ?_) (a' := ?_) #[true, true, false, false, false, false] rfl rfl (by kernel_rfl) (fun _ _ _ h => h) (Or.inl ⟨by rfl, ?_⟩) hHeld ?_ ?_
    rotate_left
    · rintro w' ⟨s0, s1, s2, s3⟩
      go_simp
      with_reducible rfl
    rotate_left
    · simp only [Act.put, List.setIfInBounds_toArray, List.set_cons_zero, List.set_cons_succ, i64_w, i32_w]
      rfl
    refine take_ (i := 2) (N := some 23) (v := ?_) (a' := ?_) #[true, true, true, false, false, false] rfl rfl (by kernel_rfl) (fun _ _ _ h => h) (Or.inl ⟨by rfl, ?_⟩) hHeld ?_ ?_
    rotate_left
    · rintro w' ⟨s0, s1, s2, s3⟩
      go_simp
      with_reducible rfl
    rotate_left
    · simp only [Act.put, List.setIfInBounds_toArray, List.set_cons_zero, List.set_cons_succ, i64_w, i32_w]
      rfl
    refine pure_ (i := 3) (N := some 24) (v := ?_) (a' := ?_) #[true, true, true, true, false, false] rfl rfl (by kernel_rfl) (fun _ _ _ h => h) (Or.inl ⟨by rfl, ?_⟩) ?_ ?_
    rotate_left
    · intro w'
      go_simp
      with_reducible rfl
    rotate_left
    · simp only [Act.put, List.setIfInBounds_toArray, List.set_cons_zero, List.set_cons_succ, i64_w, i32_w]
      rfl
    refine one_ (i := 4) (N := none) #[true, true, true, true, true, false] rfl rfl (by kernel_rfl) (by decide) (fun K hK => ?_)
    refine skip_ (w1 := ?_) (by rfl) rfl ?_ ?_
    rotate_left
    · go_simp
      rfl
    refine hK.out _ _ ⟨(blk_cell (put4_keep (blk_drew HX.out) hne1 _ _ _ _) 0), (blk_cell (put4_keep (blk_drew HX.out) hne1 _ _ _ _) 1), (blk_cell (put4_keep (blk_drew HX.out) hne1 _ _ _ _) 2), (blk_cell (put4_keep (blk_drew HX.out) hne1 _ _ _ _) 3)⟩ (fun hHeld => ?_)
    clear hK K
    refine pure_ (i := 5) (N := some 5) (v := ?_) (a' := ?_) #[true, true, true, true, true, true] rfl rfl (by kernel_rfl) (fun _ _ _ h => h) (Or.inl ⟨by rfl, ?_⟩) ?_ ?_
    rotate_left
    · intro w'
      go_simp
      with_reducible rfl
    rotate_left
    · simp only [Act.put, List.setIfInBounds_toArray, List.set_cons_zero, List.set_cons_succ, i64_w, i32_w]
      rfl
    refine done_ (by kernel_rfl) ?_

    go_wp2
    refine bodyPost_ret (results_ct rfl _ _ (w.heap.size + 1 + 1) 34 #[.int .i64 a0_0, .int .i64 a0_1, .slice A0_2 l0_2.length c0_2, .slice A0_3 l0_3.length c0_3] (0, 0) _ rfl (blk_drew (put4_ret HZ.out _ _ _ _)) Try.underlying34 rfl (by kernel_rfl)) rfl ?_
    have hBf := below_drew ((((HB.out.setCell (p := ⟨w.heap.size + 1 + 1, 0, none⟩) hle1 (.int .i64 a0_0)).setCell (p := ⟨w.heap.size + 1 + 1, 1, none⟩) hle1 (.int .i64 a0_1)).setCell (p := ⟨w.heap.size + 1 + 1, 2, none⟩) hle1 (.slice A0_2 l0_2.length c0_2)).setCell (p := ⟨w.heap.size + 1 + 1, 3, none⟩) hle1 (.slice A0_3 l0_3.length c0_3))
    exact ⟨_, _, rfl, Kd.V_mono (Kd.V_below HV2.out hBf) (fun _ hk => .inl (.inl hk)), Kd.V_mono (Kd.V_below HV3.out hBf) (fun _ hk => .inl (.inr hk)), hBf⟩
  · clear C3
    go_wp2_with fail
    clear zx0 zx1 zm0 zm1 c2
    have zx0 : wq.cell? ⟨w.heap.size, 0, none⟩ = some (.int .i64 a0_0) := blk_cell HX.out 0
    have zx1 : wq.cell? ⟨w.heap.size, 1, none⟩ = some (.int .i64 a0_1) := blk_cell HX.out 1
    have zx2 : wq.cell? ⟨w.heap.size, 2, none⟩ = some (.slice A0_2 l0_2.length c0_2) := blk_cell HX.out 2
    have zx3 : wq.cell? ⟨w.heap.size, 3, none⟩ = some (.slice A0_3 l0_3.length c0_3) := blk_cell HX.out 3
    have zz0 : wq.cell? ⟨w.heap.size + 1 + 1, 0, none⟩ = some (.int .i64 0) := blk_cell HZ.out 0
    have zz1 : wq.cell? ⟨w.heap.size + 1 + 1, 1, none⟩ = some (.int .i64 0) := blk_cell HZ.out 1
    have zz2 : wq.cell? ⟨w.heap.size + 1 + 1, 2, none⟩ = some (.slice none 0 0) := blk_cell HZ.out 2
    have zz3 : wq.cell? ⟨w.heap.size + 1 + 1, 3, none⟩ = some (.slice none 0 0) := blk_cell HZ.out 3
    have zf0 := blk_frozen HZ.out 0
    have zf1 := blk_frozen HZ.out 1
    have zf2 := blk_frozen HZ.out 2
    have zf3 := blk_frozen HZ.out 3
    refine start_ (n := 6) (S := fun w' => w'.cell? ⟨w.heap.size, 0, none⟩ = some (.int .i64 a0_0) ∧ w'.cell? ⟨w.heap.size, 1, none⟩ = some (.int .i64 a0_1) ∧ w'.cell? ⟨w.heap.size, 2, none⟩ = some (.slice A0_2 l0_2.length c0_2) ∧ w'.cell? ⟨w.heap.size, 3, none⟩ = some (.slice A0_3 l0_3.length c0_3)) (ds := []) #[false, false, false, false, false, false] (by kernel_rfl) rfl rfl ⟨zx0, zx1, zx2, zx3⟩ (fun hHeld => ?_)
    refine pure_ (i := 1) (N := some 22) (v := ?_) (a' := ?_) #[false, true, false, false, false, false] rfl rfl (by kernel_rfl) (fun _ _ _ h => h) (Or.inl ⟨by rfl, ?_⟩) ?_ ?_
    rotate_left
    · intro w'
      go_simp
      with_reducible rfl
    rotate_left
    · simp only [Act.put, List.setIfInBounds_toArray, List.set_cons_zero, List.set_cons_succ, i64_w, i32_w]
      rfl
    refine take_ (i := 0) (N := some 21) (v := ?_) (a' := ?_) #[true, true, false, false, false, false] rfl rfl (by kernel_rfl) (fun _ _ _ h => h) (Or.inl ⟨by rfl, ?_⟩) hHeld ?_ ?_
    rotate_left
    · rintro w' ⟨s0, s1, s2, s3⟩
      go_simp
      with_reducible rfl
    rotate_left
    · simp only [Act.put, List.setIfInBounds_toArray, List.set_cons_zero, List.set_cons_succ, i64_w, i32_w]
      rfl
    refine take_ (i := 2) (N := some 23) (v := ?_) (a' := ?_) #[true, true, true, false, false, false] rfl rfl (by kernel_rfl) (fun _ _ _ h => h) (Or.inl ⟨by rfl, ?_⟩) hHeld ?_ ?_
    rotate_left
    · rintro w' ⟨s0, s1, s2, s3⟩
      go_simp
      with_reducible rfl
    rotate_left
    · simp only [Act.put, List.setIfInBounds_toArray, List.set_cons_zero, List.set_cons_succ, i64_w, i32_w]
      rfl
    refine pure_ (i := 3) (N := some 24) (v := ?_) (a' := ?_) #[true, true, true, true, false, false] rfl rfl (by kernel_rfl) (fun _ _ _ h => h) (Or.inl ⟨by rfl, ?_⟩) ?_ ?_
    rotate_left
    · intro w'
      go_simp
      with_reducible rfl
    rotate_left
    · simp only [Act.put, List.setIfInBounds_toArray, List.set_cons_zero, List.set_cons_succ, i64_w, i32_w]
      rfl
    refine one_ (i := 4) (N := none) #[true, true, true, true, true, false] rfl rfl (by kernel_rfl) (by decide) (fun K hK => ?_)
    refine skip_ (w1 := ?_) (by rfl) rfl ?_ ?_
    rotate_left
    · go_simp
      rfl
    refine hK.out _ _ ⟨(blk_cell (put4_keep (blk_drew HX.out) hne1 _ _ _ _) 0), (blk_cell (put4_keep (blk_drew HX.out) hne1 _ _ _ _) 1), (blk_cell (put4_keep (blk_drew HX.out) hne1 _ _ _ _) 2), (blk_cell (put4_keep (blk_drew HX.out) hne1 _ _ _ _) 3)⟩ (fun hHeld => ?_)
    clear hK K
    refine pure_ (i := 5) (N := some 5) (v := ?_) (a' := ?_) #[true, true, true, true, true, true] rfl rfl (by kernel_rfl) (fun _ _ _ h => h) (Or.inl ⟨by rfl, ?_⟩) ?_ ?_
    rotate_left
    · intro w'
      go_simp
      with_reducible rfl
    rotate_left
    · simp only [Act.put, List.setIfInBounds_toArray, List.set_cons_zero, List.set_cons_succ, i64_w, i32_w]
      rfl
    refine done_ (by kernel_rfl) ?_

    go_wp2
    refine bodyPost_ret (results_ct rfl _ _ (w.heap.size + 1 + 1) 34 #[.int .i64 a0_0, .int .i64 a0_1, .slice A0_2 l0_2.length c0_2, .slice A0_3 l0_3.length c0_3] (0, 0) _ rfl (blk_drew (put4_ret HZ.out _ _ _ _)) Try.underlying34 rfl (by kernel_rfl)) rfl ?_
    have hBf := below_drew ((((HB.out.setCell (p := ⟨w.heap.size + 1 + 1, 0, none⟩) hle1 (.int .i64 a0_0)).setCell (p := ⟨w.heap.size + 1 + 1, 1, none⟩) hle1 (.int .i64 a0_1)).setCell (p := ⟨w.heap.size + 1 + 1, 2, none⟩) hle1 (.slice A0_2 l0_2.length c0_2)).setCell (p := ⟨w.heap.size + 1 + 1, 3, none⟩) hle1 (.slice A0_3 l0_3.length c0_3))
    exact ⟨_, _, rfl, Kd.V_mono (Kd.V_below HV2.out hBf) (fun _ hk => .inl (.inl hk)), Kd.V_mono (Kd.V_below HV3.out hBf) (fun _ hk => .inl (.inr hk)), hBf⟩

theorem put4_R36 {w : World} {B n0 : Nat} {v : Value} {l : List S36} {p q r s : Value} (h : Kd.R k36 36 w n0 (fun _ => True) v l) (hb : w.heap[B]? = some (.cells #[p, q, r, s] 34 (0, 0))) (a b c d : Value) :
    Kd.R k36 36 ((((w.setCell ⟨B, 0, none⟩ a).setCell ⟨B, 1, none⟩ b).setCell ⟨B, 2, none⟩ c).setCell ⟨B, 3, none⟩ d).drew n0 (fun _ => True) v l :=
  Kd.R_drew (Kd.R_set (Kd.R_set (Kd.R_set (Kd.R_set h hb (by decide) 0 a) (blk_put hb 0 a rfl) (by decide) 1 b) (blk_put (blk_put hb 0 a rfl) 1 b rfl) (by decide) 2 c) (blk_put (blk_put (blk_put hb 0 a rfl) 1 b rfl) 2 c rfl) (by decide) 3 d)
theorem put4_R38 {w : World} {B n0 : Nat} {v : Value} {l : List S38} {p q r s : Value} (h : Kd.R k38 38 w n0 (fun _ => True) v l) (hb : w.heap[B]? = some (.cells #[p, q, r, s] 34 (0, 0))) (a b c d : Value) :
    Kd.R k38 38 ((((w.setCell ⟨B, 0, none⟩ a).setCell ⟨B, 1, none⟩ b).setCell ⟨B, 2, none⟩ c).setCell ⟨B, 3, none⟩ d).drew n0 (fun _ => True) v l :=
  Kd.R_drew (Kd.R_set (Kd.R_set (Kd.R_set (Kd.R_set h hb (by decide) 0 a) (blk_put hb 0 a rfl) (by decide) 1 b) (blk_put (blk_put hb 0 a rfl) 1 b rfl) (by decide) 2 c) (blk_put (blk_put (blk_put hb 0 a rfl) 1 b rfl) 2 c rfl) (by decide) 3 d)
theorem InR.below {w0 : World} {B β : Nat} {u n : Int} {lg : List S36} {le : List S38} {Z : Obj} {w w' : World} {vg ve : Value} (h : InR w0 B β u n lg le Z w vg ve) (hb : Below w.heap.size w w') : InR w0 B β u n lg le Z w' vg ve :=
  ⟨blk_below h.x hb, blk_below h.z hb, Kd.R_below h.g hb, Kd.R_below h.e hb, h.b.trans (hb.mono (Nat.le_trans (Nat.le_trans (by have := h.q; omega) h.s) (Nat.le_refl _))), h.q, Nat.le_trans h.s hb.size⟩
theorem box36_R {w : World} {n0 b : Nat} {a : S36} (hb : w.heap[b]? = some (.cells #[.int .i64 a.f0, .int .i64 a.f1, .string a.f2, .string a.f3] 36 (0, 0))) (hn : n0 ≤ b) : Kd.R k36 36 w n0 (fun _ => True) (.slice (some ⟨b, 0, none⟩) 1 1) [a] := by
  refine ⟨fun _ _ => trivial, [.int .i64 a.f0, .int .i64 a.f1, .string a.f2, .string a.f3], ⟨rfl, .inr ⟨b, 1, _, rfl, hn, hb, Nat.le_refl _, by unfold maxLen; omega, rfl, rfl⟩⟩, rfl, fun j p hj => ?_⟩
  match j, hj with
  | 0, hj =>
    obtain rfl : a = p := by simpa using hj
    exact k36_mkM _ _ _ _
  | j + 1, hj => simp at hj
theorem box36_cells {w : World} {n0 b : Nat} {a : S36} (h : Kd.R k36 36 w n0 (fun _ => True) (.slice (some ⟨b, 0, none⟩) 1 1) [a]) : w.cell? ⟨b, 0, none⟩ = some (.int .i64 a.f0) ∧ w.cell? ⟨b, 1, none⟩ = some (.int .i64 a.f1) ∧ w.cell? ⟨b, 2, none⟩ = some (.string a.f2) ∧ w.cell? ⟨b, 3, none⟩ = some (.string a.f3) := by
  obtain ⟨_, _, hC⟩ := Kd.R_reads' h
  obtain ⟨ad, he, h0, h1, h2, h3⟩ := at_T36 hC 0 (by omega) (by simp)
  obtain rfl : (⟨b, 0, none⟩ : Addr) = ad := Option.some.inj he
  exact ⟨h0, h1, h2, h3⟩
theorem acceptL_stop {n : Int} {g : List S36} {e : List S38} (h : e.any (fun y => decide (y.f1 = n)) = false) : ∀ k, acceptL k n g e = (n, g, e)
  | 0 => rfl
  | k + 1 => by rw [acceptL, if_neg (by rw [h]; decide)]
theorem own_V {α : Type} {d : Kd α} {e n0 base b : Nat} {w : World} {v : Value} {xs : List α} {P : Nat → Prop} (h : Kd.R d e w n0 (fun _ => True) v xs) (hb : b ≤ n0) : Kd.V d e w base (fun k_ => (P k_ ∨ b ≤ k_)) v xs :=
  Kd.V_mono (Kd.R_V (Kd.R_bound h)) (fun k hk => .inr (Nat.le_trans hb hk.2.1))
set_option maxRecDepth 100000 in
set_option maxHeartbeats 8000000 in
theorem recv_rest (a0_0 : Int) (a0_1 : Int) (P0_2_ : Nat → Prop) (A0_2 : Option Addr) (c0_2 : Nat) (l0_2 : List (S36)) (P0_3_ : Nat → Prop) (A0_3 : Option Addr) (c0_3 : Nat) (l0_3 : List (S38)) (a1_0 : Int) (a1_1 : Int) (a1_2 : Int) (a1_3 : Int) (a1_4 : ByteArray) (a1_5 : ByteArray) (r1 : Int) (r2 : Int) (r3 : List (S36)) (r4 : List (S38)) (r5 : Int) (w : World)
    (hs0_2 : Kd.V k36 36 w w.heap.size (fun k_ => P0_2_ k_) (.slice A0_2 l0_2.length c0_2) l0_2) (hs0_3 : Kd.V k38 38 w w.heap.size (fun k_ => P0_3_ k_) (.slice A0_3 l0_3.length c0_3) l0_3) (c1 : ¬ (a1_0 ≠ a0_0 ∨ a1_1 < a0_1)) (h : notify_Receive.f a0_0 a0_1 l0_2 l0_3 a1_0 a1_1 a1_2 a1_3 a1_4 a1_5 = some (r1, r2, r3, r4, r5)) :
    Calls Try.prog 15 #[.agg #[.int .i64 a0_0, .int .i64 a0_1, .slice A0_2 l0_2.length c0_2, .slice A0_3 l0_3.length c0_3], .agg #[.int .i64 a1_0, .int .i64 a1_1, .int .i64 a1_2, .int .i64 a1_3, .string a1_4, .string a1_5]] w fun e w' => ∃ v2_ v3_ : Value, e = .returned (.tuple #[.agg #[.int .i64 r1, .int .i64 r2, v2_, v3_], .int .i64 r5]) ∧ Kd.V k36 36 w' w.heap.size (fun k_ => ((P0_2_ k_ ∨ P0_3_ k_) ∨ w.heap.size ≤ k_)) v2_ r3 ∧ Kd.V k38 38 w' w.heap.size (fun k_ => ((P0_2_ k_ ∨ P0_3_ k_) ∨ w.heap.size ≤ k_)) v3_ r4 ∧ Below w.heap.size w w' := by
  unfold notify_Receive.f at h
  by_cases hl : l0_2.length + l0_3.length < 1099511627776
  case neg => rw [if_neg hl] at h; cases h
  rw [if_pos hl] at h
  obtain ⟨_, hcg, hCg⟩ := Kd.V_reads' hs0_2
  obtain ⟨_, hce, hCe⟩ := Kd.V_reads' hs0_3
  have HV2 := Lib.hid hs0_2; clear hs0_2
  have HV3 := Lib.hid hs0_3; clear hs0_3
  have HCg := Lib.hid hCg; clear hCg
  have HCe := Lib.hid hCe; clear hCe
  have H := Lib.hid h; clear h
  have h := H.out
  rw [if_neg c1] at h
  clear H
  have H := Lib.hid h; clear h
  have hx : (((w.alloc (.cells #[.int .i64 a0_0, .int .i64 a0_1, .slice A0_2 l0_2.length c0_2, .slice A0_3 l0_3.length c0_3] 34)).alloc (.cells #[.int .i64 a1_0, .int .i64 a1_1, .int .i64 a1_2, .int .i64 a1_3, .string a1_4, .string a1_5] 38)).alloc (.cells #[.int .i64 0, .int .i64 0, .slice none 0 0, .slice none 0 0] 34)).heap[w.heap.size]? = some (.cells #[.int .i64 a0_0, .int .i64 a0_1, .slice A0_2 l0_2.length c0_2, .slice A0_3 l0_3.length c0_3] 34 (0, 0)) := blk_alloc (blk_alloc (World.alloc_heap_new w _) _) _
  have hm : (((w.alloc (.cells #[.int .i64 a0_0, .int .i64 a0_1, .slice A0_2 l0_2.length c0_2, .slice A0_3 l0_3.length c0_3] 34)).alloc (.cells #[.int .i64 a1_0, .int .i64 a1_1, .int .i64 a1_2, .int .i64 a1_3, .string a1_4, .string a1_5] 38)).alloc (.cells #[.int .i64 0, .int .i64 0, .slice none 0 0, .slice none 0 0] 34)).heap[w.heap.size + 1]? = some (.cells #[.int .i64 a1_0, .int .i64 a1_1, .int .i64 a1_2, .int .i64 a1_3, .string a1_4, .string a1_5] 38 (0, 0)) := blk_alloc (by have := World.alloc_heap_new (w.alloc (.cells #[.int .i64 a0_0, .int .i64 a0_1, .slice A0_2 l0_2.length c0_2, .slice A0_3 l0_3.length c0_3] 34)) (.cells #[.int .i64 a1_0, .int .i64 a1_1, .int .i64 a1_2, .int .i64 a1_3, .string a1_4, .string a1_5] 38); rwa [World.size_alloc] at this) _
  have hz : (((w.alloc (.cells #[.int .i64 a0_0, .int .i64 a0_1, .slice A0_2 l0_2.length c0_2, .slice A0_3 l0_3.length c0_3] 34)).alloc (.cells #[.int .i64 a1_0, .int .i64 a1_1, .int .i64 a1_2, .int .i64 a1_3, .string a1_4, .string a1_5] 38)).alloc (.cells #[.int .i64 0, .int .i64 0, .slice none 0 0, .slice none 0 0] 34)).heap[w.heap.size + 1 + 1]? = some (.cells #[.int .i64 0, .int .i64 0, .slice none 0 0, .slice none 0 0] 34 (0, 0)) := by have := World.alloc_heap_new ((w.alloc (.cells #[.int .i64 a0_0, .int .i64 a0_1, .slice A0_2 l0_2.length c0_2, .slice A0_3 l0_3.length c0_3] 34)).alloc (.cells #[.int .i64 a1_0, .int .i64 a1_1, .int .i64 a1_2, .int .i64 a1_3, .string a1_4, .string a1_5] 38)) (.cells #[.int .i64 0, .int .i64 0, .slice none 0 0, .slice none 0 0] 34); rwa [World.size_alloc, World.size_alloc] at this
  have hbq : Below w.heap.size w (((w.alloc (.cells #[.int .i64 a0_0, .int .i64 a0_1, .slice A0_2 l0_2.length c0_2, .slice A0_3 l0_3.length c0_3] 34)).alloc (.cells #[.int .i64 a1_0, .int .i64 a1_1, .int .i64 a1_2, .int .i64 a1_3, .string a1_4, .string a1_5] 38)).alloc (.cells #[.int .i64 0, .int .i64 0, .slice none 0 0, .slice none 0 0] 34)) := (((Below.refl _ _).alloc (Nat.le_refl _) _).alloc (by simp) _).alloc (by simp; omega) _
  have hsq : (((w.alloc (.cells #[.int .i64 a0_0, .int .i64 a0_1, .slice A0_2 l0_2.length c0_2, .slice A0_3 l0_3.length c0_3] 34)).alloc (.cells #[.int .i64 a1_0, .int .i64 a1_1, .int .i64 a1_2, .int .i64 a1_3, .string a1_4, .string a1_5] 38)).alloc (.cells #[.int .i64 0, .int .i64 0, .slice none 0 0, .slice none 0 0] 34)).heap.size = w.heap.size + 3 := by simp
  have HX := Lib.hid hx; clear hx
  have HM := Lib.hid hm; clear hm
  have HZ := Lib.hid hz; clear hz
  have HB := Lib.hid hbq; clear hbq
  have HS := Lib.hid hsq; clear hsq
  have c2 : a1_0 = a0_0 := Decidable.byContradiction fun h => c1 (.inl h)
  have c3 : ¬ a1_1 < a0_1 := fun h => c1 (.inr h)
  clear c1
  have C2 := Lib.hid c2; clear c2
  have C3 := Lib.hid c3; clear c3
  go_enter Try.func15, Try.ntmps15
  go_upto_region 1 with (fail)
  generalize (((w.alloc (.cells #[.int .i64 a0_0, .int .i64 a0_1, .slice A0_2 l0_2.length c0_2, .slice A0_3 l0_3.length c0_3] 34)).alloc (.cells #[.int .i64 a1_0, .int .i64 a1_1, .int .i64 a1_2, .int .i64 a1_3, .string a1_4, .string a1_5] 38)).alloc (.cells #[.int .i64 0, .int .i64 0, .slice none 0 0, .slice none 0 0] 34)) = wq at HX HM HZ HB HS ⊢
  have zx0 : wq.cell? ⟨w.heap.size, 0, none⟩ = some (.int .i64 a0_0) := blk_cell HX.out 0
  have zx1 : wq.cell? ⟨w.heap.size, 1, none⟩ = some (.int .i64 a0_1) := blk_cell HX.out 1
  have zm0 : wq.cell? ⟨w.heap.size + 1, 0, none⟩ = some (.int .i64 a1_0) := blk_cell HM.out 0
  have zm1 : wq.cell? ⟨w.heap.size + 1, 1, none⟩ = some (.int .i64 a1_1) := blk_cell HM.out 1
  have hne1 : w.heap.size ≠ w.heap.size + 1 + 1 := by omega
  have hle1 : w.heap.size ≤ w.heap.size + 1 + 1 := by omega
  have c2 := C2.out
  have c3 := C3.out
  go_wp2_with fail
  clear zx0 zx1 zm0 zm1 c2 c3
  have zx2 : wq.cell? ⟨w.heap.size, 2, none⟩ = some (.slice A0_2 l0_2.length c0_2) := blk_cell HX.out 2
  have zx3 : wq.cell? ⟨w.heap.size, 3, none⟩ = some (.slice A0_3 l0_3.length c0_3) := blk_cell HX.out 3
  refine start_ (n := 10) (S := fun w' => w'.cell? ⟨w.heap.size, 2, none⟩ = some (.slice A0_2 l0_2.length c0_2) ∧ w'.cell? ⟨w.heap.size, 3, none⟩ = some (.slice A0_3 l0_3.length c0_3)) (ds := [7, 9]) #[false, false, false, false, false, false, false, false, false, false] (by kernel_rfl) rfl rfl ⟨zx2, zx3⟩ (fun hHeld => ?_)
  refine pure_ (i := 0) (N := some 25) (v := ?_) (a' := ?_) #[true, false, false, false, false, false, false, false, false, false] rfl rfl (by kernel_rfl) (fun _ _ _ h => h) (Or.inl ⟨by rfl, ?_⟩) ?_ ?_
  rotate_left
  · intro w'
    go_simp
    with_reducible rfl
  rotate_left
  · simp only [Act.put, List.setIfInBounds_toArray, List.set_cons_zero, List.set_cons_succ, i64_w, i32_w]
    rfl
  refine pure_ (i := 3) (N := some 28) (v := ?_) (a' := ?_) #[true, false, false, true, false, false, false, false, false, false] rfl rfl (by kernel_rfl) (fun _ _ _ h => h) (Or.inl ⟨by rfl, ?_⟩) ?_ ?_
  rotate_left
  · intro w'
    go_simp
    with_reducible rfl
  rotate_left
  · simp only [Act.put, List.setIfInBounds_toArray, List.set_cons_zero, List.set_cons_succ, i64_w, i32_w]
    rfl
  refine take_ (i := 1) (N := some 26) (v := ?_) (a' := ?_) #[true, true, false, true, false, false, false, false, false, false] rfl rfl (by kernel_rfl) (fun _ _ _ h => h) (Or.inl ⟨by rfl, ?_⟩) hHeld ?_ ?_
  rotate_left
  · rintro w' ⟨s0, s1⟩
    go_simp
    with_reducible rfl
  rotate_left
  · simp only [Act.put, List.setIfInBounds_toArray, List.set_cons_zero, List.set_cons_succ, i64_w, i32_w]
    rfl
  refine take_ (i := 4) (N := some 29) (v := ?_) (a' := ?_) #[true, true, false, true, true, false, false, false, false, false] rfl rfl (by kernel_rfl) (fun _ _ _ h => h) (Or.inl ⟨by rfl, ?_⟩) hHeld ?_ ?_
  rotate_left
  · rintro w' ⟨s0, s1⟩
    go_simp
    with_reducible rfl
  rotate_left
  · simp only [Act.put, List.setIfInBounds_toArray, List.set_cons_zero, List.set_cons_succ, i64_w, i32_w]
    rfl
  refine one_ (i := 2) (N := some 27) #[true, true, true, true, true, false, false, false, false, false] rfl rfl (by kernel_rfl) (by decide) (fun K hK => ?_)
  refine goes_ Try.func29 (by kernel_rfl) rfl #[.slice A0_2 l0_2.length c0_2] (by rfl) rfl rfl (by simp only [List.map_toArray, List.map_cons, List.map_nil]; rfl) ?_
  with_reducible refine (cloneA_calls A0_2 c0_2 l0_2 _ (Kd.C_below HCg.out (below_drew HB.out)) hcg (by omega)).mono ?_
  rintro e w1 ⟨v1, rfl, hR1, hB1⟩
  refine ⟨_, rfl, ?_⟩
  refine hK.out _ _ ⟨(blk_cell (blk_below (blk_drew HX.out) hB1) 2), (blk_cell (blk_below (blk_drew HX.out) hB1) 3)⟩ (fun hHeld => ?_)
  clear hK K
  refine norm_ (a' := ?_) ?_ ?_
  rotate_left
  · show Act.put _ (some 27) _ = _
    simp only [Act.put, List.setIfInBounds_toArray, List.set_cons_zero, List.set_cons_succ, i64_w, i32_w]
    rfl
  refine pure_ (i := 6) (N := some 31) (v := ?_) (a' := ?_) #[true, true, true, true, true, false, true, false, false, false] rfl rfl (by kernel_rfl) (fun _ _ _ h => h) (Or.inl ⟨by rfl, ?_⟩) ?_ ?_
  rotate_left
  · intro w'
    go_simp
    with_reducible rfl
  rotate_left
  · simp only [Act.put, List.setIfInBounds_toArray, List.set_cons_zero, List.set_cons_succ, i64_w, i32_w]
    rfl
  refine one_ (i := 5) (N := some 30) #[true, true, true, true, true, true, true, false, false, false] rfl rfl (by kernel_rfl) (by decide) (fun K hK => ?_)
  refine goes_ Try.func28 (by kernel_rfl) rfl #[.slice A0_3 l0_3.length c0_3] (by rfl) rfl rfl (by simp only [List.map_toArray, List.map_cons, List.map_nil]; rfl) ?_
  with_reducible refine (cloneL_calls A0_3 c0_3 l0_3 _ (Kd.C_below HCe.out ((below_drew HB.out).trans (hB1.mono (below_drew HB.out).size))) hce (by omega)).mono ?_
  rintro e w2 ⟨v2, rfl, hR2, hB2⟩
  refine ⟨_, rfl, ?_⟩
  obtain ⟨A1, k1, rfl⟩ := Kd.R_slice hR1
  obtain ⟨A2, k2, rfl⟩ := Kd.R_slice hR2
  have zy2 := blk_cell (blk_below (blk_below (blk_drew HX.out) hB1) hB2) 2
  have zy3 := blk_cell (blk_below (blk_below (blk_drew HX.out) hB1) hB2) 3
  have zf2 := blk_frozen (blk_below (blk_below (blk_drew HX.out) hB1) hB2) 2
  have zf3 := blk_frozen (blk_below (blk_below (blk_drew HX.out) hB1) hB2) 3
  refine hK.out _ _ ⟨(blk_cell (blk_below (blk_below (blk_drew HX.out) hB1) hB2) 2), (blk_cell (blk_below (blk_below (blk_drew HX.out) hB1) hB2) 3)⟩ (fun hHeld => ?_)
  clear hK K
  refine norm_ (a' := ?_) ?_ ?_
  rotate_left
  · show Act.put _ (some 30) _ = _
    simp only [Act.put, List.setIfInBounds_toArray, List.set_cons_zero, List.set_cons_succ, i64_w, i32_w]
    rfl
  refine last_ (i := 7) (N := none) #[true, true, true, true, true, true, true, true, false, false] rfl rfl (by kernel_rfl) (by decide) (fun K hK => ?_)
  refine skip_ (w1 := ?_) (by rfl) rfl ?_ ?_
  rotate_left
  · go_simp
    rfl
  refine hK.out _ _ ?_
  clear hK K
  refine pure_ (i := 8) (N := some 32) (v := ?_) (a' := ?_) #[true, true, true, true, true, true, true, true, true, false] rfl rfl (by kernel_rfl) (fun _ _ _ h => h) (Or.inl ⟨by rfl, ?_⟩) ?_ ?_
  rotate_left
  · intro w'
    go_simp
    with_reducible rfl
  rotate_left
  · simp only [Act.put, List.setIfInBounds_toArray, List.set_cons_zero, List.set_cons_succ, i64_w, i32_w]
    rfl
  refine last_ (i := 9) (N := none) #[true, true, true, true, true, true, true, true, true, true] rfl rfl (by kernel_rfl) (by decide) (fun K hK => ?_)
  refine skip_ (w1 := ?_) (by rfl) rfl ?_ ?_
  rotate_left
  · go_simp
    rfl
  refine hK.out _ _ ?_
  clear hK K
  refine done_ (by kernel_rfl) ?_

  have hX2 := blk_below (blk_below (blk_drew HX.out) hB1) hB2
  have hM2 := blk_below (blk_below (blk_drew HM.out) hB1) hB2
  have hZ2 := blk_below (blk_below (blk_drew HZ.out) hB1) hB2
  have hsz : w.heap.size + 3 ≤ wq.drew.heap.size := by show w.heap.size + 3 ≤ wq.heap.size; rw [HS.out]; exact Nat.le_refl _
  have hX3 : _ = some (Obj.cells #[.int .i64 a0_0, .int .i64 a0_1, .slice A1 l0_2.length k1, .slice A2 l0_3.length k2] 34 (0, 0)) := blk_put (blk_put hX2 2 (.slice A1 l0_2.length k1) rfl) 3 (.slice A2 l0_3.length k2) rfl
  have hMA : ((w2.setCell ⟨w.heap.size, 2, none⟩ (.slice A1 l0_2.length k1)).setCell ⟨w.heap.size, 3, none⟩ (.slice A2 l0_3.length k2)).heap[w.heap.size + 1]? = some (.cells #[.int .i64 a1_0, .int .i64 a1_1, .int .i64 a1_2, .int .i64 a1_3, .string a1_4, .string a1_5] 38 (0, 0)) := by
    rw [Below.heap_setCell _ _ _ _ (by simp), Below.heap_setCell _ _ _ _ (by simp)]; exact hM2
  have hIn : InR w w.heap.size (w.heap.size + 3) a0_0 a0_1 l0_2 l0_3 (.cells #[.int .i64 0, .int .i64 0, .slice none 0 0, .slice none 0 0] 34 (0, 0)) ((w2.setCell ⟨w.heap.size, 2, none⟩ (.slice A1 l0_2.length k1)).setCell ⟨w.heap.size, 3, none⟩ (.slice A2 l0_3.length k2)) (.slice A1 l0_2.length k1) (.slice A2 l0_3.length k2) := by
    refine ⟨hX3, ?_, ?_, ?_, ?_, Nat.le_refl _, ?_⟩
    · rw [Below.heap_setCell _ _ _ _ (by simp), Below.heap_setCell _ _ _ _ (by simp)]; exact hZ2
    · exact Kd.R_set (Kd.R_set (Kd.R_below (Kd.R_lower hR1 hsz) hB2) hX2 (by decide) 2 _) (blk_put hX2 2 (.slice A1 l0_2.length k1) rfl) (by decide) 3 _
    · exact Kd.R_set (Kd.R_set (Kd.R_lower hR2 (Nat.le_trans hsz hB1.size)) hX2 (by decide) 2 _) (blk_put hX2 2 (.slice A1 l0_2.length k1) rfl) (by decide) 3 _
    · exact ((((below_drew HB.out).trans (hB1.mono (below_drew HB.out).size)).trans (hB2.mono (Nat.le_trans (below_drew HB.out).size hB1.size))).setCell (Nat.le_refl _) _).setCell (Nat.le_refl _) _
    · simpa using Nat.le_trans (Nat.le_trans hsz hB1.size) hB2.size
  clear hX2 hM2 hZ2 hX3 hR1 hR2 hB1 hB2 hHeld zy2 zy3 zf2 zf3 zx2 zx3 HX HM HZ HB
  generalize (w2.setCell ⟨w.heap.size, 2, none⟩ (.slice A1 l0_2.length k1)).setCell ⟨w.heap.size, 3, none⟩ (.slice A2 l0_3.length k2) = wA at hIn hMA ⊢
  have hx0 : wA.cell? ⟨w.heap.size, 0, none⟩ = some (.int .i64 a0_0) := blk_cell hIn.x 0
  have hx1 : wA.cell? ⟨w.heap.size, 1, none⟩ = some (.int .i64 a0_1) := blk_cell hIn.x 1
  have hx3 : wA.cell? ⟨w.heap.size, 3, none⟩ = some (.slice A2 l0_3.length k2) := blk_cell hIn.x 3
  have hf3 := blk_frozen hIn.x 3
  have hm0 : wA.cell? ⟨w.heap.size + 1, 0, none⟩ = some (.int .i64 a1_0) := blk_cell hMA 0
  have hm1 : wA.cell? ⟨w.heap.size + 1, 1, none⟩ = some (.int .i64 a1_1) := blk_cell hMA 1
  have hm2 : wA.cell? ⟨w.heap.size + 1, 2, none⟩ = some (.int .i64 a1_2) := blk_cell hMA 2
  have hm3 : wA.cell? ⟨w.heap.size + 1, 3, none⟩ = some (.int .i64 a1_3) := blk_cell hMA 3
  have hm4 : wA.cell? ⟨w.heap.size + 1, 4, none⟩ = some (.string a1_4) := blk_cell hMA 4
  have hm5 : wA.cell? ⟨w.heap.size + 1, 5, none⟩ = some (.string a1_5) := blk_cell hMA 5
  have HIn := Lib.hid hIn; clear hIn
  have HMA := Lib.hid hMA; clear hMA
  by_cases c4 : a0_1 < a1_1
  · have h := H.out
    rw [if_pos c4] at h
    simp only [Option.some.injEq, Prod.mk.injEq] at h
    obtain ⟨rfl, rfl, rfl, h4, rfl⟩ := h
    have H4 := Lib.hid h4; clear h4 H
    go_wp2_with fail
    refine (wait_calls A2 k2 (w.heap.size + 3) l0_3 ⟨a1_0, a1_1, ⟨a1_2, a1_3, a1_4, a1_5⟩⟩ wA HIn.out.e (by omega) HIn.out.s).mono ?_
    rintro e w3 ⟨v3, rfl, hR3, hB3, hK3⟩
    rw [H4.out] at hR3
    obtain ⟨A3, k3, rfl⟩ := Kd.R_slice hR3
    have hX3 := (hB3.block w.heap.size (by omega)).trans HIn.out.x
    have hZ3 := (hB3.block (w.heap.size + 1 + 1) (by omega)).trans HIn.out.z
    have hG3 : Kd.R k36 36 w3 (w.heap.size + 3) (fun _ => True) (.slice A1 l0_2.length k1) l0_2 := hK3 _ _ HIn.out.g
    have hBB := HIn.out.b.trans (hB3.mono (by omega))
    have hy3 : w3.cell? ⟨w.heap.size, 3, none⟩ = some (.slice A2 l0_3.length k2) := blk_cell hX3 3
    have hf3 := blk_frozen hX3 3
    have HX := Lib.hid (show _ = some (Obj.cells #[.int .i64 a0_0, .int .i64 a0_1, .slice A1 l0_2.length k1, .slice A3 r4.length k3] 34 (0, 0)) from blk_put hX3 3 (.slice A3 r4.length k3) rfl)
    have HZ := Lib.hid (show (w3.setCell ⟨w.heap.size, 3, none⟩ (.slice A3 r4.length k3)).heap[w.heap.size + 1 + 1]? = some (.cells #[.int .i64 0, .int .i64 0, .slice none 0 0, .slice none 0 0] 34 (0, 0)) from by rw [Below.heap_setCell _ _ _ _ (by simp; omega)]; exact hZ3)
    have HG := Lib.hid (Kd.R_set hG3 hX3 (by decide) 3 (.slice A3 r4.length k3))
    have HE := Lib.hid (Kd.R_set hR3 hX3 (by decide) 3 (.slice A3 r4.length k3))
    have HB := Lib.hid (hBB.setCell (p := ⟨w.heap.size, 3, none⟩) (Nat.le_refl _) (.slice A3 r4.length k3))
    clear hX3 hZ3 hG3 hR3 hB3 hBB hK3 hx0 hx1 hx3 hm0 hm1 hm2 hm3 hm4 hm5
    go_wp2_with fail
    clear hy3 hf3
    generalize w3.setCell ⟨w.heap.size, 3, none⟩ (.slice A3 r4.length k3) = wq at HX HZ HG HE HB ⊢
    have zx0 : wq.cell? ⟨w.heap.size, 0, none⟩ = some (.int .i64 a0_0) := blk_cell HX.out 0
    have zx1 : wq.cell? ⟨w.heap.size, 1, none⟩ = some (.int .i64 a0_1) := blk_cell HX.out 1
    have zx2 : wq.cell? ⟨w.heap.size, 2, none⟩ = some (.slice A1 l0_2.length k1) := blk_cell HX.out 2
    have zx3 : wq.cell? ⟨w.heap.size, 3, none⟩ = some (.slice A3 r4.length k3) := blk_cell HX.out 3
    have zz0 : wq.cell? ⟨w.heap.size + 1 + 1, 0, none⟩ = some (.int .i64 0) := blk_cell HZ.out 0
    have zz1 : wq.cell? ⟨w.heap.size + 1 + 1, 1, none⟩ = some (.int .i64 0) := blk_cell HZ.out 1
    have zz2 : wq.cell? ⟨w.heap.size + 1 + 1, 2, none⟩ = some (.slice none 0 0) := blk_cell HZ.out 2
    have zz3 : wq.cell? ⟨w.heap.size + 1 + 1, 3, none⟩ = some (.slice none 0 0) := blk_cell HZ.out 3
    have zf0 := blk_frozen HZ.out 0
    have zf1 := blk_frozen HZ.out 1
    have zf2 := blk_frozen HZ.out 2
    have zf3 := blk_frozen HZ.out 3
    refine start_ (n := 6) (S := fun w' => w'.cell? ⟨w.heap.size, 0, none⟩ = some (.int .i64 a0_0) ∧ w'.cell? ⟨w.heap.size, 1, none⟩ = some (.int .i64 a0_1) ∧ w'.cell? ⟨w.heap.size, 2, none⟩ = some (.slice A1 l0_2.length k1) ∧ w'.cell? ⟨w.heap.size, 3, none⟩ = some (.slice A3 r4.length k3)) (ds := []) #[false, false, false, false, false, false] (by kernel_rfl) rfl rfl ⟨zx0, zx1, zx2, zx3⟩ (fun hHeld => ?_)
    refine pure_ (i := 1) (N := some 45) (v := ?_) (a' := ?_) #[false, true, false, false, false, false] rfl rfl (by kernel_rfl) (fun _ _ _ h => h) (Or.inl ⟨by rfl, ?_⟩) ?_ ?_
    rotate_left
    · intro w'
      go_simp
      with_reducible rfl
    rotate_left
    · simp only [Act.put, List.setIfInBounds_toArray, List.set_cons_zero, List.set_cons_succ, i64_w, i32_w]
      rfl
    refine take_ (i := 0) (N := some 44) (v := ?_) (a' := ?_) #[true, true, false, false, false, false] rfl rfl (by kernel_rfl) (fun _ _ _ h => h) (Or.inl ⟨by rfl, ?_⟩) hHeld ?_ ?_
    rotate_left
    · rintro w' ⟨s0, s1, s2, s3⟩
      go_simp
      with_reducible rfl
    rotate_left
    · simp only [Act.put, List.setIfInBounds_toArray, List.set_cons_zero, List.set_cons_succ, i64_w, i32_w]
      rfl
    refine take_ (i := 2) (N := some 46) (v := ?_) (a' := ?_) #[true, true, true, false, false, false] rfl rfl (by kernel_rfl) (fun _ _ _ h => h) (Or.inl ⟨by rfl, ?_⟩) hHeld ?_ ?_
    rotate_left
    · rintro w' ⟨s0, s1, s2, s3⟩
      go_simp
      with_reducible rfl
    rotate_left
    · simp only [Act.put, List.setIfInBounds_toArray, List.set_cons_zero, List.set_cons_succ, i64_w, i32_w]
      rfl
    refine pure_ (i := 3) (N := some 47) (v := ?_) (a' := ?_) #[true, true, true, true, false, false] rfl rfl (by kernel_rfl) (fun _ _ _ h => h) (Or.inl ⟨by rfl, ?_⟩) ?_ ?_
    rotate_left
    · intro w'
      go_simp
      with_reducible rfl
    rotate_left
    · simp only [Act.put, List.setIfInBounds_toArray, List.set_cons_zero, List.set_cons_succ, i64_w, i32_w]
      rfl
    refine one_ (i := 4) (N := none) #[true, true, true, true, true, false] rfl rfl (by kernel_rfl) (by decide) (fun K hK => ?_)
    refine skip_ (w1 := ?_) (by rfl) rfl ?_ ?_
    rotate_left
    · go_simp
      rfl
    refine hK.out _ _ ⟨(blk_cell (put4_keep (blk_drew HX.out) hne1 _ _ _ _) 0), (blk_cell (put4_keep (blk_drew HX.out) hne1 _ _ _ _) 1), (blk_cell (put4_keep (blk_drew HX.out) hne1 _ _ _ _) 2), (blk_cell (put4_keep (blk_drew HX.out) hne1 _ _ _ _) 3)⟩ (fun hHeld => ?_)
    clear hK K
    refine pure_ (i := 5) (N := some 5) (v := ?_) (a' := ?_) #[true, true, true, true, true, true] rfl rfl (by kernel_rfl) (fun _ _ _ h => h) (Or.inl ⟨by rfl, ?_⟩) ?_ ?_
    rotate_left
    · intro w'
      go_simp
      with_reducible rfl
    rotate_left
    · simp only [Act.put, List.setIfInBounds_toArray, List.set_cons_zero, List.set_cons_succ, i64_w, i32_w]
      rfl
    refine done_ (by kernel_rfl) ?_

    go_wp2
    refine bodyPost_ret (results_ct rfl _ _ (w.heap.size + 1 + 1) 34 #[.int .i64 a0_0, .int .i64 a0_1, .slice A1 l0_2.length k1, .slice A3 r4.length k3] (0, 0) _ rfl (blk_drew (put4_ret HZ.out _ _ _ _)) Try.underlying34 rfl (by kernel_rfl)) rfl ?_
    have hBf := below_drew ((((HB.out.setCell (p := ⟨w.heap.size + 1 + 1, 0, none⟩) hle1 (.int .i64 a0_0)).setCell (p := ⟨w.heap.size + 1 + 1, 1, none⟩) hle1 (.int .i64 a0_1)).setCell (p := ⟨w.heap.size + 1 + 1, 2, none⟩) hle1 (.slice A1 l0_2.length k1)).setCell (p := ⟨w.heap.size + 1 + 1, 3, none⟩) hle1 (.slice A3 r4.length k3))
    exact ⟨_, _, rfl, own_V (put4_R36 HG.out HZ.out _ _ _ _) (by omega), own_V (put4_R38 HE.out HZ.out _ _ _ _) (by omega), hBf⟩
  · have h := H.out
    rw [if_neg c4] at h
    clear H
    have H := Lib.hid h; clear h
    go_wp2_with fail
    refine (accept_calls w w.heap.size (w.heap.size + 3) a0_0 a0_1 l0_2 l0_3 _ wA _ _ ⟨a1_2, a1_3, a1_4, a1_5⟩ HIn.out (by omega)).mono ?_
    rintro e w3 ⟨rfl, vg, hIn3⟩
    have HI3 := Lib.hid hIn3; clear hIn3
    clear hx0 hx1 hx3 hf3 hm0 hm1 hm2 hm3 hm4 hm5 HIn HMA c4
    have HL := Lib.hid (show (l0_2 ++ [(⟨a1_2, a1_3, a1_4, a1_5⟩ : S36)]).length + l0_3.length ≤ 1099511627776 by simp; omega)
    generalize (l0_2 ++ [(⟨a1_2, a1_3, a1_4, a1_5⟩ : S36)]) = lg at H HI3 HL
    generalize wrap64 (a0_1 + 1) = n1 at H HI3
    go_wp2_with fail
    go_loopg [7, 8] l0_3.length (fun k i a wr => ∃ (n : Int) (g : List S36) (e : List S38) (vg ve : Value), Hid (InR w w.heap.size (w.heap.size + 3) a0_0 n g e (.cells #[.int .i64 0, .int .i64 0, .slice none 0 0, .slice none 0 0] 34 (0, 0)) wr vg ve) ∧ k = e.length ∧ Hid (acceptL e.length n g e = acceptL l0_3.length n1 lg l0_3) ∧ Hid (g.length + e.length ≤ 1099511627776))
    case atStart => exact ⟨n1, lg, l0_3, vg, _, HI3, rfl, Lib.hid rfl, HL⟩
    case round =>
      obtain ⟨n, g, e, vg1, ve1, HI, hk, HA, HL2⟩ := hrel
      obtain ⟨Ag, kg, rfl⟩ := Kd.R_slice HI.out.g
      obtain ⟨Ae, ke, rfl⟩ := Kd.R_slice HI.out.e
      obtain ⟨_, hke, hCe⟩ := Kd.R_reads' HI.out.e
      have hle : e.length ≤ 1099511627776 := by have := HL2.out; omega
      have hcon := index_calls 33 w.heap.size (fun y => decide (y.f1 = n)) Ae ke e wr hCe hle enter33 (fun x W hB => recv2_calls x _ n W (blk_cell (blk_below HI.out.x hB) 1))
      have HCON := Lib.hid hcon; clear hcon hCe
      have hidx := idxN_find (fun y => decide (y.f1 = n)) e 0
      have hy3 : wr.cell? ⟨w.heap.size, 3, none⟩ = some (.slice Ae e.length ke) := blk_cell HI.out.x 3
      subst hk
      by_cases hany : e.any (fun y => decide (y.f1 = n)) = true
      · rw [if_pos hany, Nat.zero_add] at hidx
        rw [hidx] at HCON
        have hil : e.findIdx (fun y => decide (y.f1 = n)) < e.length := List.findIdx_lt_length.2 (by simpa using hany)
        have hacc : acceptL e.length n g e = acceptL (e.length - 1) (wrap64 (n + 1)) (g ++ [(e.getD (e.findIdx fun y => decide (y.f1 = n)) z38).f2]) (e.take (e.findIdx fun y => decide (y.f1 = n)) ++ e.drop (e.findIdx (fun y => decide (y.f1 = n)) + 1)) := by
          obtain ⟨m, hm⟩ : ∃ m, e.length = m + 1 := ⟨e.length - 1, by omega⟩
          rw [hm, acceptL, if_pos hany]
          rfl
        have HA2 := Lib.hid (hacc.symm.trans HA.out)
        clear hacc HA hidx hany
        generalize e.findIdx (fun y => decide (y.f1 = n)) = q at HCON hil HA2
        go_wp2_with fail
        refine HCON.out.mono ?_
        rintro e1 w1 ⟨rfl, hB1⟩
        have HI1 := Lib.hid (HI.out.below hB1)
        clear hB1 hy3
        obtain ⟨_, _, hCe⟩ := Kd.R_reads' HI1.out.e
        obtain ⟨ad, rfl, _, _, h2, h3, h4, h5⟩ := at_T38 hCe (q : Int) (by omega) (by omega)
        have hx : rd_T38 e (q : Int) = e.getD q z38 := rfl
        rw [hx] at h2 h3 h4 h5
        simp only [Int.toNat_natCast] at h2 h3 h4 h5
        clear hx hCe
        have hy3 : w1.cell? ⟨w.heap.size, 3, none⟩ = some (.slice (some ad) e.length ke) := blk_cell HI1.out.x 3
        generalize (e.getD q z38).f2 = al at h2 h3 h4 h5 HA2
        have hqn : ¬ ((q : Int) < 0) := by omega
        have hq0 : (0 : Int) ≤ (q : Int) := by omega
        have hqe : (q : Int) < (e.length : Int) := by omega
        go_upto_region 13 with (fail)
        have hbx := World.alloc_heap_new w1 (.cells #[.int .i64 al.f0, .int .i64 al.f1, .string al.f2, .string al.f3] 36)
        have HI2 := Lib.hid (HI1.out.below ((Below.refl w1.heap.size w1).alloc (Nat.le_refl _) (.cells #[.int .i64 al.f0, .int .i64 al.f1, .string al.f2, .string al.f3] 36)))
        have hbR := box36_R (n0 := w.heap.size + 3) hbx HI1.out.s
        clear hbx hy3 h2 h3 h4 h5
        generalize w1.alloc (.cells #[.int .i64 al.f0, .int .i64 al.f1, .string al.f2, .string al.f3] 36) = wB at HI2 hbR ⊢
        have hy3 : wB.cell? ⟨w.heap.size, 3, none⟩ = some (.slice (some ad) e.length ke) := blk_cell HI2.out.x 3
        have HBR := Lib.hid hbR; clear hbR
        go_wp2_with fail
        refine (delete_calls (some ad) ke q (w.heap.size + 3) e wB HI2.out.e hil hle HI2.out.s).mono ?_
        rintro e2 w2 ⟨v2, rfl, hR2, hB2, hK2⟩
        have hlen : (e.take q ++ e.drop (q + 1)).length = e.length - 1 := by simp; omega
        have HL3 := Lib.hid (show (g ++ [al]).length + (e.take q ++ e.drop (q + 1)).length ≤ 1099511627776 by rw [hlen]; have := HL2.out; simp; omega)
        have HLT := Lib.hid (show (e.take q ++ e.drop (q + 1)).length < e.length by omega)
        rw [← hlen] at HA2
        clear hlen
        generalize e.take q ++ e.drop (q + 1) = e' at hR2 HL3 HLT HA2
        obtain ⟨A3, k3, rfl⟩ := Kd.R_slice hR2
        have hbR2 := hK2 _ _ HBR.out
        have hX2 := (hB2.block w.heap.size (by omega)).trans HI2.out.x
        have hZ2 := (hB2.block (w.heap.size + 1 + 1) (by omega)).trans HI2.out.z
        have hG2 := hK2 _ _ HI2.out.g
        have hy3 : w2.cell? ⟨w.heap.size, 3, none⟩ = some (.slice (some ad) e.length ke) := blk_cell hX2 3
        have hf3 := blk_frozen hX2 3
        have HI4 := Lib.hid (show InR w w.heap.size (w.heap.size + 3) a0_0 n g e' (.cells #[.int .i64 0, .int .i64 0, .slice none 0 0, .slice none 0 0] 34 (0, 0)) (w2.setCell ⟨w.heap.size, 3, none⟩ (.slice A3 e'.length k3)) (.slice Ag g.length kg) (.slice A3 e'.length k3) from
          ⟨blk_put hX2 3 (.slice A3 e'.length k3) rfl, by rw [Below.heap_setCell _ _ _ _ (by simp)]; exact hZ2, Kd.R_set hG2 hX2 (by decide) 3 _, Kd.R_set hR2 hX2 (by decide) 3 _, (HI2.out.b.trans (hB2.mono (by omega))).setCell (Nat.le_refl _) _, Nat.le_refl _, by simpa using Nat.le_trans HI2.out.s hB2.size⟩)
        have hbR3 := Kd.R_set hbR2 hX2 (by decide) 3 (.slice A3 e'.length k3)
        have HBR3 := Lib.hid hbR3
        clear hbR3 hbR2 hX2 hZ2 hG2 hR2 hB2 hK2
        go_upto_region 14 with (fail)
        clear hy3 hf3
        generalize w2.setCell ⟨w.heap.size, 3, none⟩ (.slice A3 e'.length k3) = wC at HI4 HBR3 ⊢
        obtain ⟨b0, b1, b2, b3⟩ := box36_cells HBR3.out
        go_wp2_with fail
        refine (accept_calls w w.heap.size (w.heap.size + 3) a0_0 n g e' _ wC _ _ al HI4.out (by have := HL2.out; omega)).mono ?_
        rintro e3 w4 ⟨rfl, vg4, hIn4⟩
        have HI5 := Lib.hid hIn4; clear hIn4 b0 b1 b2 b3
        go_wp2
        go_roundg e'.length
        case measure => exact HLT.out
        case rel => exact ⟨wrap64 (n + 1), g ++ [al], e', vg4, _, HI5, rfl, HA2, HL3⟩
      · rw [if_neg hany] at hidx
        rw [hidx] at HCON
        have hF := acceptL_stop (g := g) (Bool.eq_false_iff.2 hany) e.length
        rw [hF] at HA
        have h := H.out
        rw [← HA.out] at h
        simp only [Option.some.injEq, Prod.mk.injEq] at h
        obtain ⟨rfl, rfl, rfl, rfl, rfl⟩ := h
        clear hF H HA hidx hany
        go_wp2_with fail
        refine HCON.out.mono ?_
        rintro e1 w1 ⟨rfl, hB1⟩
        have HI1 := Lib.hid (HI.out.below hB1)
        clear hB1 hy3
        have HX := Lib.hid HI1.out.x
        have HZ := Lib.hid HI1.out.z
        have HB := Lib.hid HI1.out.b
        go_wp2_with fail
        clear HCON HI HI3
        obtain ⟨wq, hwq⟩ : ∃ wq, wq = w1 := ⟨_, rfl⟩
        subst hwq
        have zx0 : wq.cell? ⟨w.heap.size, 0, none⟩ = some (.int .i64 a0_0) := blk_cell HX.out 0
        have zx1 : wq.cell? ⟨w.heap.size, 1, none⟩ = some (.int .i64 n) := blk_cell HX.out 1
        have zx2 : wq.cell? ⟨w.heap.size, 2, none⟩ = some (.slice Ag g.length kg) := blk_cell HX.out 2
        have zx3 : wq.cell? ⟨w.heap.size, 3, none⟩ = some (.slice Ae e.length ke) := blk_cell HX.out 3
        have zz0 : wq.cell? ⟨w.heap.size + 1 + 1, 0, none⟩ = some (.int .i64 0) := blk_cell HZ.out 0
        have zz1 : wq.cell? ⟨w.heap.size + 1 + 1, 1, none⟩ = some (.int .i64 0) := blk_cell HZ.out 1
        have zz2 : wq.cell? ⟨w.heap.size + 1 + 1, 2, none⟩ = some (.slice none 0 0) := blk_cell HZ.out 2
        have zz3 : wq.cell? ⟨w.heap.size + 1 + 1, 3, none⟩ = some (.slice none 0 0) := blk_cell HZ.out 3
        have zf0 := blk_frozen HZ.out 0
        have zf1 := blk_frozen HZ.out 1
        have zf2 := blk_frozen HZ.out 2
        have zf3 := blk_frozen HZ.out 3
        refine start_ (n := 6) (S := fun w' => w'.cell? ⟨w.heap.size, 0, none⟩ = some (.int .i64 a0_0) ∧ w'.cell? ⟨w.heap.size, 1, none⟩ = some (.int .i64 n) ∧ w'.cell? ⟨w.heap.size, 2, none⟩ = some (.slice Ag g.length kg) ∧ w'.cell? ⟨w.heap.size, 3, none⟩ = some (.slice Ae e.length ke)) (ds := []) #[false, false, false, false, false, false] (by kernel_rfl) rfl rfl ⟨zx0, zx1, zx2, zx3⟩ (fun hHeld => ?_)
        refine pure_ (i := 1) (N := some 59) (v := ?_) (a' := ?_) #[false, true, false, false, false, false] rfl rfl (by kernel_rfl) (fun _ _ _ h => h) (Or.inl ⟨by rfl, ?_⟩) ?_ ?_
        rotate_left
        · intro w'
          go_simp
          with_reducible rfl
        rotate_left
        · simp only [Act.put, List.setIfInBounds_toArray, List.set_cons_zero, List.set_cons_succ, i64_w, i32_w]
          rfl
        refine take_ (i := 0) (N := some 58) (v := ?_) (a' := ?_) #[true, true, false, false, false, false] rfl rfl (by kernel_rfl) (fun _ _ _ h => h) (Or.inl ⟨by rfl, ?_⟩) hHeld ?_ ?_
        rotate_left
        · rintro w' ⟨s0, s1, s2, s3⟩
          go_simp
          with_reducible rfl
        rotate_left
        · simp only [Act.put, List.setIfInBounds_toArray, List.set_cons_zero, List.set_cons_succ, i64_w, i32_w]
          rfl
        refine take_ (i := 2) (N := some 60) (v := ?_) (a' := ?_) #[true, true, true, false, false, false] rfl rfl (by kernel_rfl) (fun _ _ _ h => h) (Or.inl ⟨by rfl, ?_⟩) hHeld ?_ ?_
        rotate_left
        · rintro w' ⟨s0, s1, s2, s3⟩
          go_simp
          with_reducible rfl
        rotate_left
        · simp only [Act.put, List.setIfInBounds_toArray, List.set_cons_zero, List.set_cons_succ, i64_w, i32_w]
          rfl
        refine pure_ (i := 3) (N := some 61) (v := ?_) (a' := ?_) #[true, true, true, true, false, false] rfl rfl (by kernel_rfl) (fun _ _ _ h => h) (Or.inl ⟨by rfl, ?_⟩) ?_ ?_
        rotate_left
        · intro w'
          go_simp
          with_reducible rfl
        rotate_left
        · simp only [Act.put, List.setIfInBounds_toArray, List.set_cons_zero, List.set_cons_succ, i64_w, i32_w]
          rfl
        refine one_ (i := 4) (N := none) #[true, true, true, true, true, false] rfl rfl (by kernel_rfl) (by decide) (fun K hK => ?_)
        refine skip_ (w1 := ?_) (by rfl) rfl ?_ ?_
        rotate_left
        · go_simp
          rfl
        refine hK.out _ _ ⟨(blk_cell (put4_keep (blk_drew HX.out) hne1 _ _ _ _) 0), (blk_cell (put4_keep (blk_drew HX.out) hne1 _ _ _ _) 1), (blk_cell (put4_keep (blk_drew HX.out) hne1 _ _ _ _) 2), (blk_cell (put4_keep (blk_drew HX.out) hne1 _ _ _ _) 3)⟩ (fun hHeld => ?_)
        clear hK K
        refine pure_ (i := 5) (N := some 5) (v := ?_) (a' := ?_) #[true, true, true, true, true, true] rfl rfl (by kernel_rfl) (fun _ _ _ h => h) (Or.inl ⟨by rfl, ?_⟩) ?_ ?_
        rotate_left
        · intro w'
          go_simp
          with_reducible rfl
        rotate_left
        · simp only [Act.put, List.setIfInBounds_toArray, List.set_cons_zero, List.set_cons_succ, i64_w, i32_w]
          rfl
        refine done_ (by kernel_rfl) ?_

        go_wp2
        refine bodyPost_ret (results_ct rfl _ _ (w.heap.size + 1 + 1) 34 #[.int .i64 a0_0, .int .i64 n, .slice Ag g.length kg, .slice Ae e.length ke] (0, 0) _ rfl (blk_drew (put4_ret HZ.out _ _ _ _)) Try.underlying34 rfl (by kernel_rfl)) rfl ?_
        have hBf := below_drew ((((HB.out.setCell (p := ⟨w.heap.size + 1 + 1, 0, none⟩) hle1 (.int .i64 a0_0)).setCell (p := ⟨w.heap.size + 1 + 1, 1, none⟩) hle1 (.int .i64 n)).setCell (p := ⟨w.heap.size + 1 + 1, 2, none⟩) hle1 (.slice Ag g.length kg)).setCell (p := ⟨w.heap.size + 1 + 1, 3, none⟩) hle1 (.slice Ae e.length ke))
        exact ⟨_, _, rfl, own_V (put4_R36 HI1.out.g HZ.out _ _ _ _) (by omega), own_V (put4_R38 HI1.out.e HZ.out _ _ _ _) (by omega), hBf⟩
theorem notify_Receive.calls (a0_0 : Int) (a0_1 : Int) (P0_2_ : Nat → Prop) (A0_2 : Option Addr) (c0_2 : Nat) (l0_2 : List (S36)) (P0_3_ : Nat → Prop) (A0_3 : Option Addr) (c0_3 : Nat) (l0_3 : List (S38)) (a1_0 : Int) (a1_1 : Int) (a1_2 : Int) (a1_3 : Int) (a1_4 : ByteArray) (a1_5 : ByteArray) (r1 : Int) (r2 : Int) (r3 : List (S36)) (r4 : List (S38)) (r5 : Int) (w : World)
    (hs0_2 : Kd.V k36 36 w w.heap.size (fun k_ => P0_2_ k_) (.slice A0_2 l0_2.length c0_2) l0_2) (hs0_3 : Kd.V k38 38 w w.heap.size (fun k_ => P0_3_ k_) (.slice A0_3 l0_3.length c0_3) l0_3) (h : notify_Receive.f a0_0 a0_1 l0_2 l0_3 a1_0 a1_1 a1_2 a1_3 a1_4 a1_5 = some (r1, r2, r3, r4, r5)) :
    Calls Try.prog 15 #[.agg #[.int .i64 a0_0, .int .i64 a0_1, .slice A0_2 l0_2.length c0_2, .slice A0_3 l0_3.length c0_3], .agg #[.int .i64 a1_0, .int .i64 a1_1, .int .i64 a1_2, .int .i64 a1_3, .string a1_4, .string a1_5]] w fun e w' => ∃ v2_ v3_ : Value, e = .returned (.tuple #[.agg #[.int .i64 r1, .int .i64 r2, v2_, v3_], .int .i64 r5]) ∧ Kd.V k36 36 w' w.heap.size (fun k_ => ((P0_2_ k_ ∨ P0_3_ k_) ∨ w.heap.size ≤ k_)) v2_ r3 ∧ Kd.V k38 38 w' w.heap.size (fun k_ => ((P0_2_ k_ ∨ P0_3_ k_) ∨ w.heap.size ≤ k_)) v3_ r4 ∧ Below w.heap.size w w' := by
  by_cases c1 : a1_0 ≠ a0_0 ∨ a1_1 < a0_1
  · exact recv_early a0_0 a0_1 P0_2_ A0_2 c0_2 l0_2 P0_3_ A0_3 c0_3 l0_3 a1_0 a1_1 a1_2 a1_3 a1_4 a1_5 r1 r2 r3 r4 r5 w hs0_2 hs0_3 c1 h
  · exact recv_rest a0_0 a0_1 P0_2_ A0_2 c0_2 l0_2 P0_3_ A0_3 c0_3 l0_3 a1_0 a1_1 a1_2 a1_3 a1_4 a1_5 r1 r2 r3 r4 r5 w hs0_2 hs0_3 c1 h


end Go.Proofs.Ytcoidmhdkhpalaa.PAll
