/-
  Functions: best columns.
-/
import Derived.Test.YtgblgofmdhekiaaFnGE
namespace Go.Proofs.Ytgblgofmdhekiaa.Ab
open Go
set_option linter.unusedVariables false
set_option linter.unusedSimpArgs false
set_option maxRecDepth 100000

theorem gm.side_small {r c : Int} {xs ys : List Int} (h : gm.sp r c xs ys = true) {n : Nat} (hn : n ≤ c.toNat) : n ≤ 1000000 := by
  obtain ⟨r, c, rfl, rfl, hr, hc, _⟩ := gm.valid h
  rw [Int.toNat_natCast] at hn
  omega













end Go.Proofs.Ytgblgofmdhekiaa.Ab
