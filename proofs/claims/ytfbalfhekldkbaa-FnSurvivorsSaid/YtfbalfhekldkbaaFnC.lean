/-
  Functions: claims.
-/
import Derived.Test.YtfbalfhekldkbaaFnB
namespace Go.Proofs.Ytfbalfhekldkbaa.Ab
open Go
set_option linter.unusedVariables false
set_option linter.unusedSimpArgs false
set_option maxRecDepth 100000







end Go.Proofs.Ytfbalfhekldkbaa.Ab
