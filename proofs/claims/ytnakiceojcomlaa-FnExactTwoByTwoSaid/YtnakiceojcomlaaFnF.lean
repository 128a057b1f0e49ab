/-
  Functions: sure parts.
-/
import Derived.Test.YtnakiceojcomlaaFnE
import Derived.Test.YtnakiceojcomlaaFnC
namespace Go.Proofs.Ytnakiceojcomlaa.Ab
open Go
set_option linter.unusedVariables false
set_option linter.unusedSimpArgs false
set_option maxRecDepth 100000

namespace l00Max
def R : List AVal → Option (Bool × AVal × List Blk)
  | [.int .i64 a, .int .i64 b] => some (true, .int .i64 (if a < b then b else a), [])
  | _ => none
theorem go (a b : Int) :
  runFn Try.prog (orc []) hd0 Dr.std none 0 (bodyOf Try.f101) 10 [4] [.int .i64 a, .int .i64 b] []
  = (bif decide (b < a) then some (AVal.int IntKind.i64 a, []) else some (AVal.int IntKind.i64 b, [])) := by kernel_rfl
theorem run : ∀ args v new, R args = some (true, v, new) → ∃ fuel, runFn Try.prog (orc []) hd0 Dr.std none fuel (bodyOf Try.f101) 10 [4] args [] = some (v, new) := by
  intro args v new h
  unfold R at h
  split at h
  · rename_i a b
    simp only [Option.some.injEq, Prod.mk.injEq] at h
    obtain ⟨_, rfl, rfl⟩ := h
    refine ⟨0, ?_⟩
    rw [go]
    by_cases c : a < b
    · have : ¬ b < a := by omega
      simp [c, this]
    · by_cases c2 : b < a
      · simp [c, c2]
      · have : a = b := by omega
        simp [this]
  · cases h
theorem ok : EntOk Try.prog ⟨101, R⟩ :=
  ent_okA mixed (A := (orc [])) (orc_ok (by simp)) Try.func101 (by kernel_rfl) (by kernel_rfl) (n := 10) (ts := [4]) (hd := hd0) (dr := Dr.std) (cut := none) (by kernel_rfl) (by kernel_rfl) (by kernel_rfl) run
end l00Max



end Go.Proofs.Ytnakiceojcomlaa.Ab
