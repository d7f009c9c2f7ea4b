/-
  decl: the arguments of the laws as AE's data.
-/
import Derived.Test.YtbpccdengeakgaaOpi
import Derived.Test.YtbpccdengeakgaaLibb
set_option linter.unusedVariables false
set_option maxRecDepth 100000
namespace Go.Proofs.Ytbpccdengeakgaa.AE
open Go Go.RowKit
theorem o3 : OpI Try.prog 3 1 (fun ds => ∃ n : Int, ds = [.int .i64 n]) := opi_imp (opi_int Try.underlying3) (fun ds ⟨n, h, _⟩ => ⟨n, h⟩)
theorem o9s : OpI Try.prog 9 1 (fun ds => ∃ s : ByteArray, ds = [.str s] ∧ s.size < 1000000000000000) := opi_imp (opi_string Try.underlying9) (fun ds ⟨n, h, hs⟩ => ⟨n, h, by omega⟩)
theorem o9 : OpI Try.prog 9 1 (fun ds => ∃ s : ByteArray, ds = [.str s]) := opi_imp (opi_string Try.underlying9) (fun ds ⟨n, h, _⟩ => ⟨n, h⟩)
theorem o4 : OpI Try.prog 4 1 (fun ds => ∃ b : Bool, ds = [.bool b]) := opi_bool Try.underlying4
theorem sl_of : ∀ (xs : List (List D)), (∀ x ∈ xs, ∃ s : ByteArray, x = [.str s]) → ∃ l, xs = sl l
  | [], _ => ⟨[], rfl⟩
  | x :: r, h => by
    obtain ⟨s, rfl⟩ := h x (by simp)
    obtain ⟨l, hl⟩ := sl_of r (fun y hy => h y (by simp [hy]))
    exact ⟨s :: l, by rw [hl]; rfl⟩
theorem o45 : OpI Try.prog 45 1 (fun ds => ∃ l : List ByteArray, ds = [.isl (sl l)] ∧ l.length < 100000000000000) := by
  refine opi_imp (opi_slice Try.underlying45 (by kernel_rfl) (by decide) o9) ?_
  rintro ds ⟨xs, rfl, hb, hx⟩
  obtain ⟨l, rfl⟩ := sl_of xs hx
  rw [sl_len, show Try.prog.bytesOf 9 = 16 by kernel_rfl] at hb
  exact ⟨l, rfl, by omega⟩
theorem o47 : OpI Try.prog 47 11 (fun ds => ∃ d : Dc, ds = d.cells ∧ d.ok) := by
  refine opi_imp (opi_struct Try.underlying47 (by kernel_rfl) (opf_cons (m := 1) rfl (by kernel_rfl) o3 (opf_cons (m := 1) rfl (by kernel_rfl) o3 (opf_cons (m := 1) rfl (by kernel_rfl) o9 (opf_cons (m := 1) rfl (by kernel_rfl) o3 (opf_cons (m := 1) rfl (by kernel_rfl) o9 (opf_cons (m := 1) rfl (by kernel_rfl) o45 (opf_cons (m := 1) rfl (by kernel_rfl) o45 (opf_cons (m := 1) rfl (by kernel_rfl) o4 (opf_cons (m := 1) rfl (by kernel_rfl) o3 (opf_cons (m := 1) rfl (by kernel_rfl) o3 (opf_one (m := 1) rfl (by kernel_rfl) o3))))))))))) ) ?_
  rintro ds ⟨_, _, rfl, ⟨x0, rfl⟩, _, _, rfl, ⟨x1, rfl⟩, _, _, rfl, ⟨x2, rfl⟩, _, _, rfl, ⟨x3, rfl⟩, _, _, rfl, ⟨x4, rfl⟩, _, _, rfl, ⟨x5, rfl, h5⟩, _, _, rfl, ⟨x6, rfl, h6⟩, _, _, rfl, ⟨x7, rfl⟩, _, _, rfl, ⟨x8, rfl⟩, _, _, rfl, ⟨x9, rfl⟩, x10, rfl⟩
  exact ⟨⟨x0, x1, x2, x3, x4, false, x5, false, x6, x7, x8, x9, x10⟩, rfl, h5, h6⟩
theorem dl_of : ∀ (xs : List (List D)), (∀ x ∈ xs, ∃ d : Dc, x = d.cells ∧ d.ok) → ∃ l, xs = dl l ∧ ∀ d ∈ l, d.ok
  | [], _ => ⟨[], rfl, by simp⟩
  | x :: r, h => by
    obtain ⟨s, rfl, hs⟩ := h x (by simp)
    obtain ⟨l, hl, hd⟩ := dl_of r (fun y hy => h y (by simp [hy]))
    refine ⟨s :: l, by rw [hl]; rfl, fun d hm => ?_⟩
    rcases List.mem_cons.1 hm with rfl | hm
    · exact hs
    · exact hd d hm
theorem o32 : OpI Try.prog 32 1 (fun ds => ∃ l : List Dc, ds = [.isl (dl l)] ∧ l.length < 100000000000000 ∧ ∀ d ∈ l, d.ok) := by
  refine opi_imp (opi_slice Try.underlying32 (by kernel_rfl) (by decide) o47) ?_
  rintro ds ⟨xs, rfl, hb, hx⟩
  obtain ⟨l, rfl, hd⟩ := dl_of xs hx
  rw [dl_len, show Try.prog.bytesOf 47 = 136 by kernel_rfl] at hb
  exact ⟨l, rfl, by omega, hd⟩
theorem o60 : OpI Try.prog 60 4 (fun ds => ∃ x : ByteArray × Int × Int × Int, ds = [.str x.1, .int .i64 x.2.1, .int .i64 x.2.2.1, .int .i64 x.2.2.2] ∧ x.1.size < 1000000000000000) := by
  refine opi_imp (opi_struct Try.underlying60 (by kernel_rfl) (opf_cons (m := 1) rfl (by kernel_rfl) o9s (opf_cons (m := 1) rfl (by kernel_rfl) o3 (opf_cons (m := 1) rfl (by kernel_rfl) o3 (opf_one (m := 1) rfl (by kernel_rfl) o3))))) ?_
  rintro ds ⟨_, _, rfl, ⟨x0, rfl, h0⟩, _, _, rfl, ⟨x1, rfl⟩, _, _, rfl, ⟨x2, rfl⟩, x3, rfl⟩
  exact ⟨(x0, x1, x2, x3), rfl, h0⟩
end Go.Proofs.Ytbpccdengeakgaa.AE
