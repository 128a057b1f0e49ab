/-
  Small rules with which checks are told from hypotheses.
-/
import Derived.Test.YtjhofofieiiplaaGreatDoorFnA
namespace Go.Proofs.YtjhofofieiiplaaGreatDoor.Ab
open Go
set_option linter.unusedVariables false

theorem beqT {a b : Int} (h : a = b) : (a == b) = true := by simp [h]
theorem beqF {a b : Int} (h : ¬ a = b) : (a == b) = false := by simp [h]
theorem bneT {a b : Int} (h : ¬ a = b) : (a != b) = true := by simp [h]
theorem bneF {a b : Int} (h : a = b) : (a != b) = false := by simp [h]
theorem take_one {α : Type} (x : α) : List.take 1 [x] = [x] := rfl
theorem set_one {α : Type} (z x : α) : (List.replicate 1 z).set 0 x = [x] := rfl
theorem nat_succ (i : Nat) : (i : Int) + 1 = ((i + 1 : Nat) : Int) := rfl
theorem gz_left {l : List Int} {x : Int} {j : Nat} (h : j < l.length) : gz (l ++ [x]) j = gz l j := by
  rw [gz_eq h, gz_eq (by simp; omega), List.getElem_append_left h]
theorem gz_last {l : List Int} {x : Int} : gz (l ++ [x]) l.length = x := by
  rw [gz_eq (by simp), List.getElem_append_right (by omega)]
  simp
theorem gz_mem {l : List Int} {j : Nat} (h : j < l.length) : gz l j ∈ l := by rw [gz_eq h]; exact List.getElem_mem h
theorem gz_out {l : List Int} {j : Nat} (h : l.length ≤ j) : gz l j = 0 := by
  unfold gz
  rw [List.getD_eq_getElem?_getD, List.getElem?_eq_none (by omega)]; rfl
theorem gz_set {l : List Int} {i j : Nat} {x : Int} (h : i < l.length) : gz (l.set i x) j = if i = j then x else gz l j := by
  by_cases hj : j < l.length
  · rw [gz_eq (by simpa using hj), gz_eq hj, List.getElem_set]
  · rw [gz_out (by simpa using hj), gz_out (by omega), if_neg (by omega)]
theorem ix_lt {R C i k : Nat} (hi : i < R) (hk : k < C) : i * C + k < R * C := by
  have : (i + 1) * C ≤ R * C := Nat.mul_le_mul_right C hi
  rw [Nat.add_mul, Nat.one_mul] at this
  omega
theorem mod_ix {i c k : Nat} (h : k < c) : (i * c + k) % c = k := by rw [Nat.add_comm, Nat.add_mul_mod_self_right, Nat.mod_eq_of_lt h]
theorem div_ix {i c k : Nat} (h : k < c) : (i * c + k) / c = i := by
  rw [Nat.add_comm, Nat.add_mul_div_right _ _ (by omega), Nat.div_eq_of_lt h, Nat.zero_add]

end Go.Proofs.YtjhofofieiiplaaGreatDoor.Ab
