/-
  Functions: claims.
-/
import Derived.Test.YtdbjnmefflngcaaFnB
namespace Go.Proofs.Ytdbjnmefflngcaa.Ab
open Go
set_option linter.unusedVariables false
set_option linter.unusedSimpArgs false
set_option maxRecDepth 100000







end Go.Proofs.Ytdbjnmefflngcaa.Ab
