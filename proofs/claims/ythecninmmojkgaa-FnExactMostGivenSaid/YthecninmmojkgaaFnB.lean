/-
  Functions: bargains.
-/
import Derived.Test.YthecninmmojkgaaFnA
namespace Go.Proofs.Ythecninmmojkgaa.Ab
open Go
set_option linter.unusedVariables false
set_option linter.unusedSimpArgs false
set_option maxRecDepth 100000

theorem bif_and (b c : Bool) (H : Heap) : (bif b then some (AVal.bool c, H) else some (AVal.bool false, H)) = some (.bool (b && c), H) := by cases b <;> rfl
theorem if_tail {α : Type} {b : Bool} {x y z : α} (h1 : b = true → x = z) (h2 : b = false → y = z) : (bif b then x else y) = z := by cases b; exact h2 rfl; exact h1 rfl

namespace areMany
def R : List AVal → Option (Bool × AVal × List Blk)
  | [.ro (.ints .i64 xs) m 1, .int .i64 few, .int .i64 many, .int .i64 lo, .int .i64 hi] => some (decide (m ≤ xs.length ∧ m ≤ 4611686018427387904), .bool ((decide (few ≤ m) && decide ((m : Int) ≤ many)) && (xs.take m).all fun x => decide (lo ≤ x) && decide (x ≤ hi)), [])
  | _ => none
theorem go (xs : List Int) (m : Nat) (few many lo hi : Int) :
  runFn Try.prog (orc [⟨51, within.R⟩, ⟨74, areWithin.R⟩]) hd0 Dr.std none 0 (bodyOf Try.f87) 22 [10] [.ro (.ints .i64 xs) m 1, .int .i64 few, .int .i64 many, .int .i64 lo, .int .i64 hi] []
  = (bif true && (true && (true && (true && true)) || true && true) then bif decide (few ≤ (↑m : Int)) && decide ((↑m : Int) ≤ many) then bif decide (m ≤ xs.length ∧ m ≤ (4611686018427387904 : Nat)) && (true && (true && (true && true)) || true && true) then some (AVal.bool ((List.take m xs).all fun x => decide (lo ≤ x) && decide (x ≤ hi)), []) else none else some (AVal.bool false, []) else none) := by kernel_rfl
theorem run : ∀ args v new, R args = some (true, v, new) → ∃ fuel, runFn Try.prog (orc [⟨51, within.R⟩, ⟨74, areWithin.R⟩]) hd0 Dr.std none fuel (bodyOf Try.f87) 22 [10] args [] = some (v, new) := by
  intro args v new h
  unfold R at h
  split at h
  · simp only [Option.some.injEq, Prod.mk.injEq, decide_eq_true_eq] at h
    obtain ⟨⟨h1, h2⟩, rfl, rfl⟩ := h
    refine ⟨0, ?_⟩
    rw [go]
    simp only [h1, h2, and_self, decide_true, Bool.and_self, Bool.or_self, cond_true]
    exact bif_and _ _ _
  · cases h
theorem ok : EntOk Try.prog ⟨87, R⟩ :=
  ent_ok (es := [⟨51, within.R⟩, ⟨74, areWithin.R⟩]) mixed (by simp only [List.mem_cons, List.not_mem_nil, or_false, forall_eq_or_imp, forall_eq]; exact ⟨within.ok, areWithin.ok⟩) Try.func87 (by kernel_rfl) (by kernel_rfl) (n := 22) (ts := [10]) (hd := hd0) (dr := Dr.std) (cut := none) (by kernel_rfl) (by kernel_rfl) (by kernel_rfl) run
end areMany





end Go.Proofs.Ythecninmmojkgaa.Ab
