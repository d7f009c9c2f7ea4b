/-
  AE, part 2: what memory says of data (Im: of data that nobody writes; Rp: of data that may lie in blocks of the call's own), and that it lasts.
-/
import Derived.Test.YtbpccdengeakgaaAE1
import Derived.Below
import Derived.Maps.AppendAt
import Derived.Laws.OwnMore
import Derived.Deep.MidRow
import Derived.LoopN
import Derived.Orders
set_option linter.unusedVariables false
namespace Go.Proofs.Ytbpccdengeakgaa.AE
open Go Go.RowKit

theorem add_block (a : Addr) (n : Nat) : (a.add n).block = a.block := by unfold Addr.add; split <;> rfl
theorem cell_of_block {w w' : World} {a : Addr} (h : w'.heap[a.block]? = w.heap[a.block]?) : w'.cell? a = w.cell? a := World.cell?_of_block h

/-- Data that reads only blocks of I. -/
inductive Im (w : World) (I : Nat → Prop) : D → Value → Prop
  | und : Im w I .und undef
  | int (k : IntKind) (n : Int) : Im w I (.int k n) (.int k n)
  | bool (b : Bool) : Im w I (.bool b) (.bool b)
  | str (s : ByteArray) : Im w I (.str s) (.string s)
  | nlf : Im w I .nlf .nilFunc
  | nlm : Im w I .nlf (.map none)
  | nls : Im w I .nls (.slice none 0 0)
  | isl {xs : List (List D)} {A : Option Addr} {c sz : Nat} (f : Nat → Nat → Value) (hc : xs.length ≤ c) (hlen : ∀ x ∈ xs, x.length = sz) (hlf : ∀ x ∈ xs, ∀ d ∈ x, D.leaf d = true)
      (h : xs ≠ [] → ∃ ad, A = some ad ∧ I ad.block ∧ ∀ i j x d, xs[i]? = some x → x[j]? = some d → w.cell? (ad.add (i * sz + j)) = some (f i j))
      (hr : ∀ i j x d, xs[i]? = some x → x[j]? = some d → Im w I d (f i j)) : Im w I (.isl xs) (.slice A xs.length c)
  | agg {cs : List D} (vs : List Value) (hs : cs.length = vs.length) (h : ∀ (j : Nat) (d : D) (v : Value), cs[j]? = some d → vs[j]? = some v → Im w I d v) : Im w I (.agg cs) (.agg vs.toArray)
  | tup {cs : List D} (vs : List Value) (hs : cs.length = vs.length) (h : ∀ (j : Nat) (d : D) (v : Value), cs[j]? = some d → vs[j]? = some v → Im w I d v) : Im w I (.tup cs) (.tuple vs.toArray)
  | ipt {cs : List D} {o : Nat} {ad : Addr} (f : Nat → Value) (hI : I ad.block) (hlf : ∀ d ∈ cs, D.leaf d = true) (h : ∀ (j : Nat) (d : D), cs[o + j]? = some d → w.cell? (ad.add j) = some (f j))
      (hr : ∀ (j : Nat) (d : D), cs[o + j]? = some d → Im w I d (f j)) : Im w I (.ipt cs o) (.pointer (some ad))
  | fn {f : Nat} {cs : List D} (vs : List Value) (hs : cs.length = vs.length) (h : ∀ (j : Nat) (d : D) (v : Value), cs[j]? = some d → vs[j]? = some v → Im w I d v) : Im w I (.fn f cs) (.func (.func f) #[] vs.toArray)

theorem Im.mono {w w' : World} {I I' : Nat → Prop} (hI : ∀ b, I b → I' b) (hw : ∀ b, I b → w'.heap[b]? = w.heap[b]?) {d : D} {v : Value} (h : Im w I d v) : Im w' I' d v := by
  induction h with
  | und => exact .und
  | int k n => exact .int k n
  | bool b => exact .bool b
  | str s => exact .str s
  | nlf => exact .nlf
  | nlm => exact .nlm
  | nls => exact .nls
  | isl f hc hlen hlf h hr ih =>
    refine .isl f hc hlen hlf (fun hn => ?_) ih
    obtain ⟨ad, rfl, hb, hcell⟩ := h hn
    exact ⟨ad, rfl, hI _ hb, fun i j x d hx hd => (cell_of_block (w := w) (w' := w') (by rw [add_block]; exact hw _ hb)).trans (hcell i j x d hx hd)⟩
  | agg vs hs h ih => exact .agg vs hs ih
  | tup vs hs h ih => exact .tup vs hs ih
  | ipt f hb hlf h hr ih => exact .ipt f (hI _ hb) hlf (fun j d hd => (cell_of_block (w := w) (w' := w') (by rw [add_block]; exact hw _ hb)).trans (h j d hd)) ih
  | fn vs hs h ih => exact .fn vs hs ih

/-- Where a block of the call's own lies: its number (none: no memory), its elements' size, the slice's value. -/
structure Pl where
  b : Option Nat
  sz : Nat
  val : Value
abbrev Mu := Nat → Option Pl

/-- Data whose parts may lie in blocks of the call's own. -/
inductive Rp (w : World) (I : Nat → Prop) (μ : Mu) : D → Value → Prop
  | im {d : D} {v : Value} (h : Im w I d v) : Rp w I μ d v
  | ptr {l i o b : Nat} {p : Pl} (h : μ l = some p) (hb : p.b = some b) : Rp w I μ (.ptr l i o) (.pointer (some ⟨b, i * p.sz + o, none⟩))
  | osl {l : Nat} {p : Pl} {A : Option Addr} {n c : Nat} (h : μ l = some p) (hv : p.val = .slice A n c) : Rp w I μ (.osl l) (.slice A n c)
  | mpr {l b : Nat} {p : Pl} (h : μ l = some p) (hb : p.b = some b) : Rp w I μ (.mpr l) (.map (some b))
  | agg {cs : List D} (vs : List Value) (hs : cs.length = vs.length) (h : ∀ (j : Nat) (d : D) (v : Value), cs[j]? = some d → vs[j]? = some v → Rp w I μ d v) : Rp w I μ (.agg cs) (.agg vs.toArray)
  | tup {cs : List D} (vs : List Value) (hs : cs.length = vs.length) (h : ∀ (j : Nat) (d : D) (v : Value), cs[j]? = some d → vs[j]? = some v → Rp w I μ d v) : Rp w I μ (.tup cs) (.tuple vs.toArray)
  | fn {f : Nat} {cs : List D} (vs : List Value) (hs : cs.length = vs.length) (h : ∀ (j : Nat) (d : D) (v : Value), cs[j]? = some d → vs[j]? = some v → Rp w I μ d v) : Rp w I μ (.fn f cs) (.func (.func f) #[] vs.toArray)

/-- The world has gone on: what nobody writes is as it was; names stay. -/
structure Go1 (I I' : Nat → Prop) (μ μ' : Mu) (w w' : World) : Prop where
  imp : ∀ b, I b → I' b
  blk : ∀ b, I b → w'.heap[b]? = w.heap[b]?
  nam : ∀ l p, μ l = some p → μ' l = some p
theorem Go1.refl (I : Nat → Prop) (μ : Mu) (w : World) : Go1 I I μ μ w w := ⟨fun _ h => h, fun _ _ => rfl, fun _ _ h => h⟩
theorem Go1.trans {I I1 I2 : Nat → Prop} {μ μ1 μ2 : Mu} {w w1 w2 : World} (h : Go1 I I1 μ μ1 w w1) (k : Go1 I1 I2 μ1 μ2 w1 w2) : Go1 I I2 μ μ2 w w2 :=
  ⟨fun b hb => k.imp b (h.imp b hb), fun b hb => (k.blk b (h.imp b hb)).trans (h.blk b hb), fun l p hp => k.nam l p (h.nam l p hp)⟩
theorem Im.go {w w' : World} {I I' : Nat → Prop} {μ μ' : Mu} (g : Go1 I I' μ μ' w w') {d : D} {v : Value} (h : Im w I d v) : Im w' I' d v := h.mono g.imp g.blk
theorem Rp.go {w w' : World} {I I' : Nat → Prop} {μ μ' : Mu} (g : Go1 I I' μ μ' w w') {d : D} {v : Value} (h : Rp w I μ d v) : Rp w' I' μ' d v := by
  induction h with
  | im h => exact .im (h.go g)
  | ptr h hb => exact .ptr (g.nam _ _ h) hb
  | osl h hv => exact .osl (g.nam _ _ h) hv
  | mpr h hb => exact .mpr (g.nam _ _ h) hb
  | agg vs hs h ih => exact .agg vs hs ih
  | tup vs hs h ih => exact .tup vs hs ih
  | fn vs hs h ih => exact .fn vs hs ih

/-- A list of data, a list of values. -/
def RpL (w : World) (I : Nat → Prop) (μ : Mu) (cs : List D) (vs : List Value) : Prop := cs.length = vs.length ∧ ∀ (j : Nat) (d : D) (v : Value), cs[j]? = some d → vs[j]? = some v → Rp w I μ d v
def ImL (w : World) (I : Nat → Prop) (cs : List D) (vs : List Value) : Prop := cs.length = vs.length ∧ ∀ (j : Nat) (d : D) (v : Value), cs[j]? = some d → vs[j]? = some v → Im w I d v
section
variable {w w' : World} {I I' : Nat → Prop} {μ μ' : Mu} {d : D} {v : Value} {cs : List D} {vs : List Value}
theorem RpL.nil : RpL w I μ [] [] := ⟨rfl, fun j d v h => by simp at h⟩
theorem RpL.cons (h : Rp w I μ d v) (h2 : RpL w I μ cs vs) : RpL w I μ (d :: cs) (v :: vs) := by
  refine ⟨by simp [h2.1], fun j a b ha hb => ?_⟩
  cases j with
  | zero => simp at ha hb; subst ha; subst hb; exact h
  | succ j => exact h2.2 j a b (by simpa using ha) (by simpa using hb)
theorem RpL.inv (h : RpL w I μ (d :: cs) vs) : ∃ v r, vs = v :: r ∧ Rp w I μ d v ∧ RpL w I μ cs r := by
  cases vs with
  | nil => exact absurd h.1 (by simp)
  | cons v r => exact ⟨v, r, rfl, h.2 0 d v rfl rfl, by simpa using h.1, fun j a b ha hb => h.2 (j + 1) a b (by simpa using ha) (by simpa using hb)⟩
theorem RpL.inv0 (h : RpL w I μ [] vs) : vs = [] := List.eq_nil_of_length_eq_zero (by simpa using h.1.symm)
theorem ImL.nil : ImL w I [] [] := ⟨rfl, fun j d v h => by simp at h⟩
theorem ImL.cons (h : Im w I d v) (h2 : ImL w I cs vs) : ImL w I (d :: cs) (v :: vs) := by
  refine ⟨by simp [h2.1], fun j a b ha hb => ?_⟩
  cases j with
  | zero => simp at ha hb; subst ha; subst hb; exact h
  | succ j => exact h2.2 j a b (by simpa using ha) (by simpa using hb)
theorem ImL.inv (h : ImL w I (d :: cs) vs) : ∃ v r, vs = v :: r ∧ Im w I d v ∧ ImL w I cs r := by
  cases vs with
  | nil => exact absurd h.1 (by simp)
  | cons v r => exact ⟨v, r, rfl, h.2 0 d v rfl rfl, by simpa using h.1, fun j a b ha hb => h.2 (j + 1) a b (by simpa using ha) (by simpa using hb)⟩
theorem ImL.inv0 (h : ImL w I [] vs) : vs = [] := List.eq_nil_of_length_eq_zero (by simpa using h.1.symm)
theorem ImL.rp (h : ImL w I cs vs) : RpL w I μ cs vs := ⟨h.1, fun j d v a b => .im (h.2 j d v a b)⟩
theorem RpL.go (g : Go1 I I' μ μ' w w') (h : RpL w I μ cs vs) : RpL w' I' μ' cs vs := ⟨h.1, fun j d v a b => (h.2 j d v a b).go g⟩
theorem ImL.go (g : Go1 I I' μ μ' w w') (h : ImL w I cs vs) : ImL w' I' cs vs := ⟨h.1, fun j d v a b => (h.2 j d v a b).go g⟩
theorem RpL.get (h : RpL w I μ cs vs) {j : Nat} (hd : cs[j]? = some d) : ∃ v, vs[j]? = some v ∧ Rp w I μ d v := by
  have hj : j < vs.length := by have := (List.getElem?_eq_some_iff.1 hd).1; rw [h.1] at this; exact this
  exact ⟨vs[j], List.getElem?_eq_getElem hj, h.2 j d _ hd (List.getElem?_eq_getElem hj)⟩
theorem ImL.get (h : ImL w I cs vs) {j : Nat} (hd : cs[j]? = some d) : ∃ v, vs[j]? = some v ∧ Im w I d v := by
  have hj : j < vs.length := by have := (List.getElem?_eq_some_iff.1 hd).1; rw [h.1] at this; exact this
  exact ⟨vs[j], List.getElem?_eq_getElem hj, h.2 j d _ hd (List.getElem?_eq_getElem hj)⟩
theorem RpL.app {cs' : List D} {vs' : List Value} (h : RpL w I μ cs vs) (h2 : RpL w I μ cs' vs') : RpL w I μ (cs ++ cs') (vs ++ vs') := by
  induction cs generalizing vs with
  | nil => obtain rfl := h.inv0; exact h2
  | cons a r ih => obtain ⟨v, q, rfl, h3, h4⟩ := h.inv; exact .cons h3 (ih h4)
theorem RpL.drop (h : RpL w I μ cs vs) (n : Nat) : RpL w I μ (cs.drop n) (vs.drop n) :=
  ⟨by simp [h.1], fun j d v a b => h.2 (n + j) d v (by rw [← List.getElem?_drop]; exact a) (by rw [← List.getElem?_drop]; exact b)⟩
theorem RpL.take (h : RpL w I μ cs vs) (n : Nat) : RpL w I μ (cs.take n) (vs.take n) := by
  refine ⟨by simp [h.1], fun j d v a b => ?_⟩
  rw [List.getElem?_take] at a b
  split at a
  · rename_i hj; rw [if_pos hj] at b; exact h.2 j d v a b
  · cases a
/-- A leaf is one cell. -/
theorem Im.one (h : Im w I d v) (hl : d.leaf = true) : v.oneCell' = true := by cases h <;> first | rfl | cases hl
theorem Rp.im_of (h : Rp w I μ d v) (hi : d.im = true) : Im w I d v := by
  cases h with
  | im h => exact h
  | fn vs hs h =>
    rename_i f cs
    have : cs = [] := by simpa [D.im] using hi
    subst this
    exact .fn vs hs (fun j d v hd => by simp at hd)
  | _ => cases hi
theorem Rp.imF_of (h : Rp w I μ d v) (hi : d.imF = true) : Im w I d v := by
  by_cases hc : ∃ f cs, d = .fn f cs
  · obtain ⟨f, cs, rfl⟩ := hc
    have hi : cs.all D.im = true := hi
    cases h with
    | im h => exact h
    | fn vs hs h => exact .fn vs hs (fun j d v a b => (h j d v a b).im_of (List.all_eq_true.1 hi d (List.mem_of_getElem? a)))
  · refine h.im_of ?_
    cases d <;> first | exact hi | exact absurd ⟨_, _, rfl⟩ hc
theorem RpL.imF_of (h : RpL w I μ cs vs) (hi : cs.all D.imF = true) : ImL w I cs vs := ⟨h.1, fun j d v a b => (h.2 j d v a b).imF_of (List.all_eq_true.1 hi d (List.mem_of_getElem? a))⟩
theorem RpL.im_of (h : RpL w I μ cs vs) (hi : cs.all D.im = true) : ImL w I cs vs := ⟨h.1, fun j d v a b => (h.2 j d v a b).im_of (List.all_eq_true.1 hi d (List.mem_of_getElem? a))⟩
end
end Go.Proofs.Ytbpccdengeakgaa.AE
