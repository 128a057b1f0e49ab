/-
  Functions: sure parts.
-/
import Derived.Test.YthecninmmojkgaaFnE
import Derived.Test.YthecninmmojkgaaFnC
namespace Go.Proofs.Ythecninmmojkgaa.Ab
open Go
set_option linter.unusedVariables false
set_option linter.unusedSimpArgs false
set_option maxRecDepth 100000




end Go.Proofs.Ythecninmmojkgaa.Ab
