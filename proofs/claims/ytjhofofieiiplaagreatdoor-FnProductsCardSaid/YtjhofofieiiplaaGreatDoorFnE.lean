/-
  Functions: marks.
-/
import Derived.Test.YtjhofofieiiplaaGreatDoorFnD
import Derived.Test.YtjhofofieiiplaaGreatDoorAbSub
namespace Go.Proofs.YtjhofofieiiplaaGreatDoor.Ab
open Go
set_option linter.unusedVariables false
set_option linter.unusedSimpArgs false
set_option maxRecDepth 100000

def marks.sv (k : Int) (m : Nat) : List Int := (List.range m).map fun i : Nat => k + (i : Int)
theorem marks_length (k : Int) (m : Nat) : (marks.sv k m).length = m := by simp [marks.sv]
theorem marks_get (k : Int) (m i : Nat) (h : i < (marks.sv k m).length) : (marks.sv k m)[i] = k + (i : Int) := by simp [marks.sv]
theorem marks_take_succ (k : Int) (m i : Nat) (h : i < m) : (marks.sv k m).take (i + 1) = (marks.sv k m).take i ++ [k + (i : Int)] := by
  rw [List.take_add_one, List.getElem?_eq_getElem (by rw [marks_length]; exact h), marks_get]; rfl
theorem marks_drop (k : Int) (m i : Nat) (h : i < m) : (marks.sv k m).drop i = (k + (i : Int)) :: (marks.sv k m).drop (i + 1) := by
  rw [List.drop_eq_getElem_cons (by rw [marks_length]; exact h), marks_get]



theorem one_neg (n : Nat) : decide ((1 : Int) + (n : Int) < 0) = false := by simp; omega
theorem take_marks (k : Int) (n : Nat) : (marks.sv k n).take n = marks.sv k n := List.take_of_length_le (by rw [marks_length]; omega)
theorem one_set {α : Type} (z x : α) : List.take 1 (List.drop 0 ((List.replicate 1 z).set 0 x)) = [x] := rfl
theorem eqN_self (n : Nat) : eqN n n = true := by simp [eqN_eq]
theorem i0_1 : ((0 : Int) ≤ 1) = True := by simp
theorem i1_b : ((1 : Int) ≤ 1000000000) = True := by simp



end Go.Proofs.YtjhofofieiiplaaGreatDoor.Ab
