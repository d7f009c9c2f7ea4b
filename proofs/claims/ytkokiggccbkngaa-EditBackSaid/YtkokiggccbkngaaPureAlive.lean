/-
  The examples of package edit come to true.
-/
import Derived.Test.YtkokiggccbkngaaPAllx8
namespace Go.Proofs.Ytkokiggccbkngaa.Pure
open Go.RowKit Go.Proofs.Ytkokiggccbkngaa.PAll Go.Proofs.YtkokiggccbkngaaW.PrintWords Go.Proofs.YtkokiggccbkngaaW.PrintLast
theorem alive_ev : Ev (fun k => codesearchlaw21_alive.f k) true := ⟨40, fun _ hn => if_pos hn⟩
end Go.Proofs.Ytkokiggccbkngaa.Pure
