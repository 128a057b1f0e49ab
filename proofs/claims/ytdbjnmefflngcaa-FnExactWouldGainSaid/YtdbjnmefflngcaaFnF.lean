/-
  Functions: sure parts.
-/
import Derived.Test.YtdbjnmefflngcaaFnE
import Derived.Test.YtdbjnmefflngcaaFnC
namespace Go.Proofs.Ytdbjnmefflngcaa.Ab
open Go
set_option linter.unusedVariables false
set_option linter.unusedSimpArgs false
set_option maxRecDepth 100000




end Go.Proofs.Ytdbjnmefflngcaa.Ab
