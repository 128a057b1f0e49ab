/-
  Functions: rounds of envy; values that the laws draw from bytes.
-/
import Derived.Test.YtkoongajnnaeoaaFnQB
import Derived.Test.YtkoongajnnaeoaaFnNA
namespace Go.Proofs.Ytkoongajnnaeoaa.Ab
open Go
set_option linter.unusedVariables false
set_option linter.unusedSimpArgs false
set_option maxRecDepth 100000



end Go.Proofs.Ytkoongajnnaeoaa.Ab
