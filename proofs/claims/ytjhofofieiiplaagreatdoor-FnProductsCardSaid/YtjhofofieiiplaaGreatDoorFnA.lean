/-
  Functions: lists of integers are copied, compared and looked through.
-/
import Derived.Test.YtjhofofieiiplaaGreatDoorAbOrc
import Derived.Test.YtjhofofieiiplaaGreatDoorChecked
import Derived.KernelRfl
namespace Go.Proofs.YtjhofofieiiplaaGreatDoor.Ab
open Go
set_option linter.unusedVariables false
set_option linter.unusedSimpArgs false
set_option maxRecDepth 100000

theorem mixed : Tryz.prog.follows .mixedOrders = true := by kernel_rfl
def hd0 : Nat → Head := fun _ => ⟨[], none⟩
abbrev Ents := List Ent
theorem wrap_nat (i : Nat) (h : i ≤ 4611686018427387904) : IntKind.i64.wrap ((i : Int) + 1) = ((i + 1 : Nat) : Int) := by
  have e : ((i : Int) + 1) = ((i + 1 : Nat) : Int) := by omega
  rw [e]; exact IntWalk.i64_in _ (by omega)
theorem drop_take_cons {α : Type} {xs : List α} {m i : Nat} (hm : m ≤ xs.length) (hi : i < m) : (xs.take m).drop i = xs[i] :: (xs.take m).drop (i + 1) := by
  rw [List.drop_eq_getElem_cons (by simp; omega)]
  simp
theorem gz_eq {xs : List Int} {i : Nat} (h : i < xs.length) : gz xs i = xs[i] := by simp [gz, h]

namespace within
def R : List AVal → Option (Bool × AVal × List Blk)
  | [.int .i64 n, .int .i64 lo, .int .i64 hi] => some (true, .bool (decide (lo ≤ n) && decide (n ≤ hi)), [])
  | _ => none
theorem go (n lo hi : Int) :
  runFn Tryz.prog (orc []) hd0 Dr.std none 0 (bodyOf Tryz.f54) 15 [6] [.int .i64 n, .int .i64 lo, .int .i64 hi] []
  = (bif decide (lo ≤ n) then some (AVal.bool (decide (n ≤ hi)), []) else some (AVal.bool false, [])) := by kernel_rfl
theorem run : ∀ args v new, R args = some (true, v, new) → ∃ fuel, runFn Tryz.prog (orc []) hd0 Dr.std none fuel (bodyOf Tryz.f54) 15 [6] args [] = some (v, new) := by
  intro args v new h
  unfold R at h
  split at h
  · rename_i n lo hi
    simp only [Option.some.injEq, Prod.mk.injEq, true_and] at h
    obtain ⟨rfl, rfl⟩ := h
    refine ⟨0, ?_⟩
    rw [go]
    cases decide (lo ≤ n) <;> rfl
  · cases h
theorem ok : EntOk Tryz.prog ⟨54, R⟩ :=
  ent_ok (es := []) mixed (by simp) Tryz.func54 (by kernel_rfl) (by kernel_rfl) (n := 15) (ts := [6]) (hd := hd0) (dr := Dr.std) (cut := none) (by kernel_rfl) (by kernel_rfl) (by kernel_rfl) run
end within





end Go.Proofs.YtjhofofieiiplaaGreatDoor.Ab
