/-
  Functions: numbers compared by their keys.
-/
import Derived.Test.YtadpndpbooofiaaFnSV
namespace Go.Proofs.Ytadpndpbooofiaa.Ab
open Go
set_option linter.unusedVariables false
set_option linter.unusedSimpArgs false
set_option maxRecDepth 100000

namespace ss
def gt.sp (ts : List Int) (x y : Int) : Bool := decide (gz ts y.toNat < gz ts x.toNat)
def cmp.sv (ts : List Int) (x y : Int) : Int := bif lt.sp ts x y then -1 else bif gt.sp ts x y then 1 else 0
theorem cmp_lt (ts : List Int) (x y : Int) : decide (cmp.sv ts x y < 0) = lt.sp ts x y := by
  unfold cmp.sv
  cases lt.sp ts x y
  · cases gt.sp ts x y <;> rfl
  · rfl
def num.sv (x y : Int) : Int := bif decide (x < y) then -1 else bif decide (y < x) then 1 else 0
end ss

namespace compareNumbers
def R : List AVal → Option (Bool × AVal × List Blk)
  | [.int .i64 a, .int .i64 b] => some (true, .int .i64 (ss.num.sv a b), [])
  | _ => none
theorem go (a b : Int) :
  runFn Try.prog (orc []) hd0 Dr.std none 0 (bodyOf Try.f39) 13 [4] [.int .i64 a, .int .i64 b] []
  = (bif decide (a < b) then some (AVal.int IntKind.i64 (-1 : Int), []) else bif decide (b < a) then some (AVal.int IntKind.i64 (1 : Int), []) else some (AVal.int IntKind.i64 (0 : Int), [])) := by kernel_rfl
theorem run : ∀ args v new, R args = some (true, v, new) → ∃ fuel, runFn Try.prog (orc []) hd0 Dr.std none fuel (bodyOf Try.f39) 13 [4] args [] = some (v, new) := by
  intro args v new h
  unfold R at h
  split at h
  · rename_i a b
    simp only [Option.some.injEq, Prod.mk.injEq] at h
    obtain ⟨_, rfl, rfl⟩ := h
    refine ⟨0, ?_⟩
    rw [go]
    unfold ss.num.sv
    cases decide (a < b)
    · cases decide (b < a) <;> rfl
    · rfl
  · cases h
theorem ok : EntOk Try.prog ⟨39, R⟩ :=
  ent_okA mixed (A := (orc [])) (orc_ok (by simp)) Try.func39 (by kernel_rfl) (by kernel_rfl) (n := 13) (ts := [4]) (hd := hd0) (dr := Dr.std) (cut := none) (by kernel_rfl) (by kernel_rfl) (by kernel_rfl) run
end compareNumbers

namespace sfcmp
def R : List AVal → Option (Bool × AVal × List Blk)
  | [.int .i64 a, .int .i64 b, .rom [.ro (.ints .i64 ts) k 1] 0] => some (decide (0 ≤ a ∧ a < (k : Int) ∧ 0 ≤ b ∧ b < (k : Int) ∧ k ≤ ts.length), .int .i64 (ss.cmp.sv ts a b), [])
  | _ => none
theorem go (a b : Int) (ts : List Int) (k : Nat) :
  runFn Try.prog (orc [⟨39, compareNumbers.R⟩]) hd0 Dr.std none 0 (bodyOf Try.f38) 15 [5] [.int .i64 a, .int .i64 b, .rom [.ro (.ints .i64 ts) k 1] 0] []
  = (bif true && (decide ((0 : Int) ≤ a) && decide (a < (↑k : Int))) then bif decide (a.toNat < ts.length) then bif true && (decide ((0 : Int) ≤ b) && decide (b < (↑k : Int))) then bif decide (b.toNat < ts.length) then bif true && (true && (true && true) || true && true) then some (AVal.int IntKind.i64 (ss.num.sv (gz ts a.toNat) (gz ts b.toNat)), []) else none else none else none else none else none) := by kernel_rfl
theorem run : ∀ args v new, R args = some (true, v, new) → ∃ fuel, runFn Try.prog (orc [⟨39, compareNumbers.R⟩]) hd0 Dr.std none fuel (bodyOf Try.f38) 15 [5] args [] = some (v, new) := by
  intro args v new h
  unfold R at h
  split at h
  · rename_i a b ts k
    simp only [Option.some.injEq, Prod.mk.injEq, decide_eq_true_eq] at h
    obtain ⟨⟨h1, h2, h3, h4, h5⟩, rfl, rfl⟩ := h
    have a1 : a.toNat < ts.length := by omega
    have b1 : b.toNat < ts.length := by omega
    have e : ss.num.sv (gz ts a.toNat) (gz ts b.toNat) = ss.cmp.sv ts a b := rfl
    refine ⟨0, ?_⟩
    rw [go]
    simp only [e, h1, h2, h3, h4, a1, b1, decide_true, decide_false, Bool.and_self, Bool.or_self, Bool.and_true, Bool.true_and, Bool.and_false, Bool.false_and, Bool.or_true, Bool.true_or, Bool.or_false, Bool.false_or, Bool.not_true, Bool.not_false, cond_true, cond_false]
  · cases h
theorem ok : EntOk Try.prog ⟨38, R⟩ :=
  ent_okA mixed (A := (orc [⟨39, compareNumbers.R⟩])) (orc_ok (by simp only [List.mem_cons, List.not_mem_nil, or_false, forall_eq_or_imp, forall_eq]; exact compareNumbers.ok)) Try.func38 (by kernel_rfl) (by kernel_rfl) (n := 15) (ts := [5]) (hd := hd0) (dr := Dr.std) (cut := none) (by kernel_rfl) (by kernel_rfl) (by kernel_rfl) run
end sfcmp

end Go.Proofs.Ytadpndpbooofiaa.Ab
