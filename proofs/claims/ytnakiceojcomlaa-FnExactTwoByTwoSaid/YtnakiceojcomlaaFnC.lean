/-
  Functions: claims.
-/
import Derived.Test.YtnakiceojcomlaaFnB
namespace Go.Proofs.Ytnakiceojcomlaa.Ab
open Go
set_option linter.unusedVariables false
set_option linter.unusedSimpArgs false
set_option maxRecDepth 100000







end Go.Proofs.Ytnakiceojcomlaa.Ab
