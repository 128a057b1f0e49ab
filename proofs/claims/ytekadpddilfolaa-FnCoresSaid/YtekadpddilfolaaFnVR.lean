/-
  Functions: sums, weights of sets, worths that are made.
-/
import Derived.Test.YtekadpddilfolaaFnVP
import Derived.Test.YtekadpddilfolaaFnWF
import Derived.Test.YtekadpddilfolaaFnZA
import Derived.Test.YtekadpddilfolaaFnB
namespace Go.Proofs.Ytekadpddilfolaa.Ab
open Go
set_option linter.unusedVariables false
set_option linter.unusedSimpArgs false
set_option maxRecDepth 100000







end Go.Proofs.Ytekadpddilfolaa.Ab
