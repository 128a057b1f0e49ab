/-
  Functions: crowds are copied and compared.
-/
import Derived.Test.YthecninmmojkgaaFnB
namespace Go.Proofs.Ythecninmmojkgaa.Ab
open Go
set_option linter.unusedVariables false
set_option linter.unusedSimpArgs false
set_option maxRecDepth 100000



namespace szInt64S
def R : List AVal → Option (Bool × AVal × List Blk)
  | [.ro (.ints .i64 xs) m 1, .int .i64 l] => some (decide (m ≤ 9223372036854775807 ∧ 0 ≤ l ∧ l ≤ 9223372036854775807), .int .i64 (bif decide (l - m < 0) then -1 else l - m), [])
  | _ => none
theorem go (xs : List Int) (m : Nat) (l : Int) :
  runFn Try.prog (orc []) hd0 Dr.std none 0 (bodyOf Try.f36) 12 [4] [.ro (.ints .i64 xs) m 1, .int .i64 l] []
  = (bif decide (IntKind.i64.wrap (l - (↑m : Int)) < (0 : Int)) then some (AVal.int IntKind.i64 (-1 : Int), []) else some (AVal.int IntKind.i64 (IntKind.i64.wrap (l - (↑m : Int))), [])) := by kernel_rfl
theorem run : ∀ args v new, R args = some (true, v, new) → ∃ fuel, runFn Try.prog (orc []) hd0 Dr.std none fuel (bodyOf Try.f36) 12 [4] args [] = some (v, new) := by
  intro args v new h
  unfold R at h
  split at h
  · rename_i xs m l
    simp only [Option.some.injEq, Prod.mk.injEq, decide_eq_true_eq] at h
    obtain ⟨⟨h1, h2, h3⟩, rfl, rfl⟩ := h
    refine ⟨0, ?_⟩
    rw [go]
    have e : IntKind.i64.wrap (l - m) = l - m := IntWalk.i64_in _ (by omega)
    rw [e]
    cases decide (l - (m : Int) < 0) <;> rfl
  · cases h
theorem ok : EntOk Try.prog ⟨36, R⟩ :=
  ent_ok (es := []) mixed (by simp) Try.func36 (by kernel_rfl) (by kernel_rfl) (n := 12) (ts := [4]) (hd := hd0) (dr := Dr.std) (cut := none) (by kernel_rfl) (by kernel_rfl) (by kernel_rfl) run
end szInt64S







end Go.Proofs.Ythecninmmojkgaa.Ab
