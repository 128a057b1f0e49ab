/-
  The half of a sum, as the machine makes it.
-/
import Derived.Test.YtadpndpbooofiaaFnSX
namespace Go.Proofs.Ytadpndpbooofiaa.Ab
open Go
set_option linter.unusedVariables false

theorem ss.half (i j : Nat) (h : i + j ≤ 100000) : IntKind.i64.wrap (ishr.sv .u64 (IntKind.u64.wrap (IntKind.i64.wrap ((i : Int) + (j : Int)))) 1) = (((i + j) / 2 : Nat) : Int) := by
  have e1 : IntKind.i64.wrap ((i : Int) + (j : Int)) = ((i + j : Nat) : Int) := by rw [IntWalk.i64_in _ (by omega)]; simp
  have e2 : IntKind.u64.wrap ((i + j : Nat) : Int) = ((i + j : Nat) : Int) := IntWalk.u64_in _ (by omega)
  have e3 : ishr.sv .u64 ((i + j : Nat) : Int) 1 = (((i + j) / 2 : Nat) : Int) := by
    show (((i + j : Nat) : Int)).fdiv 2 = _
    rw [Int.fdiv_eq_ediv_of_nonneg _ (by decide)]
    omega
  rw [e1, e2, e3]
  exact IntWalk.i64_in _ (by omega)

end Go.Proofs.Ytadpndpbooofiaa.Ab
