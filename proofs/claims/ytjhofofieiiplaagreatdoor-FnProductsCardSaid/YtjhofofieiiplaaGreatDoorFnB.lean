/-
  Functions: bargains.
-/
import Derived.Test.YtjhofofieiiplaaGreatDoorFnA
namespace Go.Proofs.YtjhofofieiiplaaGreatDoor.Ab
open Go
set_option linter.unusedVariables false
set_option linter.unusedSimpArgs false
set_option maxRecDepth 100000

theorem bif_and (b c : Bool) (H : Heap) : (bif b then some (AVal.bool c, H) else some (AVal.bool false, H)) = some (.bool (b && c), H) := by cases b <;> rfl
theorem if_tail {α : Type} {b : Bool} {x y z : α} (h1 : b = true → x = z) (h2 : b = false → y = z) : (bif b then x else y) = z := by cases b; exact h2 rfl; exact h1 rfl






end Go.Proofs.YtjhofofieiiplaaGreatDoor.Ab
