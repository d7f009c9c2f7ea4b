/-
  alive answers true, by the kernel's evaluation of AE.
-/
import Derived.Test.YtoemdhcnfmkkaaaFns
set_option linter.unusedVariables false
set_option maxRecDepth 100000
namespace Go.Proofs.Ytoemdhcnfmkkaaa.AE
open Go
theorem alive_60 : callP (runF xp md 60) 10 [] = some [.bool true] := by kernel_rfl
end Go.Proofs.Ytoemdhcnfmkkaaa.AE
