/-
  Functions: lists of floats.
-/
import Derived.Test.YtadpndpbooofiaaFnE
namespace Go.Proofs.Ytadpndpbooofiaa.Ab
open Go
set_option linter.unusedVariables false
set_option linter.unusedSimpArgs false
set_option maxRecDepth 100000

theorem gn_eq {xs : List Nat} {i : Nat} (h : i < xs.length) : gn xs i = xs[i] := by
  simp [gn, h]
theorem drop_take_consN {xs : List Nat} {m i : Nat} (hx : m ≤ xs.length) (hi : i < m) : (xs.take m).drop i = xs[i]'(by omega) :: (xs.take m).drop (i + 1) := by
  rw [List.drop_eq_getElem_cons (by simp; omega)]
  congr 1
  simp
def marksF.sv (k : Int) (m : Nat) : List Nat := (List.range m).map fun i : Nat => FloatKind.f32.nearest (k + (i : Int))
theorem marksF_length (k : Int) (m : Nat) : (marksF.sv k m).length = m := by simp [marksF.sv]
theorem marksF_get (k : Int) (m i : Nat) (h : i < (marksF.sv k m).length) : (marksF.sv k m)[i] = FloatKind.f32.nearest (k + (i : Int)) := by simp [marksF.sv]
theorem take_marksF (k : Int) (n : Nat) : (marksF.sv k n).take n = marksF.sv k n := List.take_of_length_le (by rw [marksF_length]; omega)

namespace sameFloat
def R : List AVal → Option (Bool × AVal × List Blk)
  | [.flt .f64 a, .flt .f64 b] => some (decide (a = b), .bool true, [])
  | _ => none
theorem go (a : Nat) :
  runFn Try.prog (orc []) hd0 Dr.std none 0 (bodyOf Try.f15) 37 [4] [.flt .f64 a, .flt .f64 a] []
  = (bif FloatKind.f64.format.order a a != some Ordering.eq then bif FloatKind.f64.format.order a a != some Ordering.eq then some (AVal.bool (FloatKind.f64.format.order a a != some Ordering.eq), []) else some (AVal.bool false, []) else bif FloatKind.f64.format.order a a != some Ordering.eq then bif FloatKind.f64.format.order a a != some Ordering.eq then some (AVal.bool (FloatKind.f64.format.order a a != some Ordering.eq), []) else some (AVal.bool false, []) else bif FloatKind.f64.format.order a (0 : Nat) == some Ordering.eq then bif FloatKind.f64.format.order a (0 : Nat) == some Ordering.eq then some (AVal.bool ((FloatKind.f64.format.order (fdiv FloatKind.f64 (4607182418800017408 : Nat) a) (0 : Nat) == some Ordering.gt) == (FloatKind.f64.format.order (fdiv FloatKind.f64 (4607182418800017408 : Nat) a) (0 : Nat) == some Ordering.gt)), []) else some (AVal.bool (FloatKind.f64.format.order a a == some Ordering.eq), []) else some (AVal.bool (FloatKind.f64.format.order a a == some Ordering.eq), [])) := by kernel_rfl
theorem run : ∀ args v new, R args = some (true, v, new) → ∃ fuel, runFn Try.prog (orc []) hd0 Dr.std none fuel (bodyOf Try.f15) 37 [4] args [] = some (v, new) := by
  intro args v new h
  unfold R at h
  split at h
  · rename_i a b
    simp only [Option.some.injEq, Prod.mk.injEq, decide_eq_true_eq] at h
    obtain ⟨rfl, rfl, rfl⟩ := h
    refine ⟨0, ?_⟩
    rw [go]
    cases hc : (FloatKind.f64.format.order a a != some Ordering.eq)
    · have : FloatKind.f64.format.order a a = some Ordering.eq := by simpa using hc
      simp [this]
    · simp
  · cases h
theorem ok : EntOk Try.prog ⟨15, R⟩ :=
  ent_okA mixed (A := (orc [])) (orc_ok (by simp)) Try.func15 (by kernel_rfl) (by kernel_rfl) (n := 37) (ts := [4]) (hd := hd0) (dr := Dr.std) (cut := none) (by kernel_rfl) (by kernel_rfl) (by kernel_rfl) run
end sameFloat





end Go.Proofs.Ytadpndpbooofiaa.Ab
