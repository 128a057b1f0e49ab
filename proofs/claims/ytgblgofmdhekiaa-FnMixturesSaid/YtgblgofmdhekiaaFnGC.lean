/-
  Functions: games in the laws.
-/
import Derived.Test.YtgblgofmdhekiaaFnGB
import Derived.Test.YtgblgofmdhekiaaFnE
namespace Go.Proofs.Ytgblgofmdhekiaa.Ab
open Go
set_option linter.unusedVariables false
set_option linter.unusedSimpArgs false
set_option maxRecDepth 100000












end Go.Proofs.Ytgblgofmdhekiaa.Ab
