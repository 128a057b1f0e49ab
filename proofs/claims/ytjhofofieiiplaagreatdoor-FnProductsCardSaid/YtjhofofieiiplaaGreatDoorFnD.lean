/-
  Functions: crowds are copied and compared.
-/
import Derived.Test.YtjhofofieiiplaaGreatDoorFnB
namespace Go.Proofs.YtjhofofieiiplaaGreatDoor.Ab
open Go
set_option linter.unusedVariables false
set_option linter.unusedSimpArgs false
set_option maxRecDepth 100000










end Go.Proofs.YtjhofofieiiplaaGreatDoor.Ab
