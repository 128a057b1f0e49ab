/-
  What a list of bytes is.
-/
import Derived.Test.YtjhofofieiiplaaGreatDoorFnNA
namespace Go.Proofs.YtjhofofieiiplaaGreatDoor.Ab
open Go
theorem r8.bytes_of {xs : List Int} (h : ∀ n ∈ xs, (Lit.int .u8 n).wf = true) : r8.bytes.sp xs = true := by
  unfold r8.bytes.sp
  rw [List.all_eq_true]
  intro x hx
  have := h x hx
  have e1 : IntKind.u8.min = 0 := by decide
  have e2 : IntKind.u8.max = 255 := by decide
  simp only [Lit.wf, e1, e2, Bool.and_eq_true, decide_eq_true_eq] at this ⊢
  exact this

end Go.Proofs.YtjhofofieiiplaaGreatDoor.Ab
