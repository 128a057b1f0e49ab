/-
  Functions: lists of floats.
-/
import Derived.Test.YtjhofofieiiplaaGreatDoorFnE
namespace Go.Proofs.YtjhofofieiiplaaGreatDoor.Ab
open Go
set_option linter.unusedVariables false
set_option linter.unusedSimpArgs false
set_option maxRecDepth 100000

theorem gn_eq {xs : List Nat} {i : Nat} (h : i < xs.length) : gn xs i = xs[i] := by
  simp [gn, h]
theorem drop_take_consN {xs : List Nat} {m i : Nat} (hx : m ≤ xs.length) (hi : i < m) : (xs.take m).drop i = xs[i]'(by omega) :: (xs.take m).drop (i + 1) := by
  rw [List.drop_eq_getElem_cons (by simp; omega)]
  congr 1
  simp
def marksF.sv (k : Int) (m : Nat) : List Nat := (List.range m).map fun i : Nat => FloatKind.f32.nearest (k + (i : Int))
theorem marksF_length (k : Int) (m : Nat) : (marksF.sv k m).length = m := by simp [marksF.sv]
theorem marksF_get (k : Int) (m i : Nat) (h : i < (marksF.sv k m).length) : (marksF.sv k m)[i] = FloatKind.f32.nearest (k + (i : Int)) := by simp [marksF.sv]
theorem take_marksF (k : Int) (n : Nat) : (marksF.sv k n).take n = marksF.sv k n := List.take_of_length_le (by rw [marksF_length]; omega)






end Go.Proofs.YtjhofofieiiplaaGreatDoor.Ab
