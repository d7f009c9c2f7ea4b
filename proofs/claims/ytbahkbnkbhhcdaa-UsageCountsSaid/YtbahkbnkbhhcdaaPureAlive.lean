/-
  The examples of package usage come to true.
-/
import Derived.Test.YtbahkbnkbhhcdaaPAllx6
namespace Go.Proofs.Ytbahkbnkbhhcdaa.Pure
open Go.RowKit Go.Proofs.Ytbahkbnkbhhcdaa.PAll Go.Proofs.YtbahkbnkbhhcdaaW.PrintWords Go.Proofs.YtbahkbnkbhhcdaaW.PrintLast
theorem alive_f : codesearchlaw50_alive.f 60 = some true := rfl
theorem alive_ev : Ev (fun k => codesearchlaw50_alive.f k) true := Ev.of codesearchlaw50_alive.mono alive_f
end Go.Proofs.Ytbahkbnkbhhcdaa.Pure
