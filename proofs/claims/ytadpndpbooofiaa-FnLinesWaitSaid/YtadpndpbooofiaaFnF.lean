/-
  Functions: sure parts.
-/
import Derived.Test.YtadpndpbooofiaaFnE
import Derived.Test.YtadpndpbooofiaaFnC
namespace Go.Proofs.Ytadpndpbooofiaa.Ab
open Go
set_option linter.unusedVariables false
set_option linter.unusedSimpArgs false
set_option maxRecDepth 100000




end Go.Proofs.Ytadpndpbooofiaa.Ab
