/-
  How many entries lists have together (plain).
-/
import Derived.Test.YthecninmmojkgaaFnP
import Derived.Test.YthecninmmojkgaaFnE
namespace Go.Proofs.Ythecninmmojkgaa.Ab
open Go
set_option linter.unusedVariables false
set_option linter.unusedSimpArgs false
set_option maxRecDepth 100000

def tot.sv (xs : List (List Int)) : Nat := (xs.map List.length).sum
end Go.Proofs.Ythecninmmojkgaa.Ab
