/-
  Functions: sure parts.
-/
import Derived.Test.YtkoongajnnaeoaaFnE
import Derived.Test.YtkoongajnnaeoaaFnC
namespace Go.Proofs.Ytkoongajnnaeoaa.Ab
open Go
set_option linter.unusedVariables false
set_option linter.unusedSimpArgs false
set_option maxRecDepth 100000




end Go.Proofs.Ytkoongajnnaeoaa.Ab
