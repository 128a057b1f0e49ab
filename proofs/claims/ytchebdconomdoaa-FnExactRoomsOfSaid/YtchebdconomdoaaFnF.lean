/-
  Functions: sure parts.
-/
import Derived.Test.YtchebdconomdoaaFnE
import Derived.Test.YtchebdconomdoaaFnC
namespace Go.Proofs.Ytchebdconomdoaa.Ab
open Go
set_option linter.unusedVariables false
set_option linter.unusedSimpArgs false
set_option maxRecDepth 100000




end Go.Proofs.Ytchebdconomdoaa.Ab
