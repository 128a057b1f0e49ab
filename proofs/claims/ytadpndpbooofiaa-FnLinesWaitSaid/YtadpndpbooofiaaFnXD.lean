/-
  Functions: how long all wait.
-/
import Derived.Test.YtadpndpbooofiaaFnXC
namespace Go.Proofs.Ytadpndpbooofiaa.Ab
open Go
set_option linter.unusedVariables false
set_option linter.unusedSimpArgs false
set_option maxRecDepth 100000

namespace iWaitOf
def R : List AVal → Option (Bool × AVal × List Blk)
  | [.ro (.ints .i64 xs) m 1, .ro (.ints .i64 ys) k 1, .int .i64 d] => some (decide (m ≤ xs.length ∧ m ≤ 4611686018427387904 ∧ k ≤ ys.length ∧ k ≤ 4611686018427387904), .tup [.int .i64 (ln.wait.sv (xs.take m) (ys.take k) d), .bool (ln.sp (xs.take m) (ys.take k) d)], [])
  | _ => none
theorem go (xs ys : List Int) (m k : Nat) (d : Int) :
  runFn Try.prog (orc [⟨42, isLine.R⟩, ⟨43, iLine.R⟩, ⟨44, sumOf.R⟩]) hd0 Dr.std (some 0) 0 (bodyOf Try.f22) 21 [6, 7] [.ro (.ints .i64 xs) m 1, .ro (.ints .i64 ys) k 1, .int .i64 d] []
  = (bif decide (m ≤ xs.length ∧ m ≤ (4611686018427387904 : Nat) ∧ k ≤ ys.length ∧ k ≤ (4611686018427387904 : Nat)) && (true && (true && (true && true)) || true && true) then bif !ln.sp (List.take m xs) (List.take k ys) d then some (AVal.tup [AVal.int IntKind.i64 (0 : Int), AVal.bool false], []) else bif decide (m ≤ xs.length ∧ m ≤ (4611686018427387904 : Nat) ∧ k ≤ ys.length ∧ k ≤ (4611686018427387904 : Nat)) && ln.sp (List.take m xs) (List.take k ys) d && (true && (true && (true && true)) || true && (true && true)) then bif decide ((ln.sv (List.take m xs) (List.take k ys) d).length ≤ (ln.sv (List.take m xs) (List.take k ys) d).length ∧ (ln.sv (List.take m xs) (List.take k ys) d).length ≤ (4611686018427387904 : Nat)) && (false && true || true && true) then bif decide (m ≤ xs.length ∧ m ≤ (4611686018427387904 : Nat)) && (true && true || true && true) then some (AVal.tup [AVal.int IntKind.i64 (IntKind.i64.wrap (sumOf.sp (List.take (ln.sv (List.take m xs) (List.take k ys) d).length (ln.sv (List.take m xs) (List.take k ys) d)) - sumOf.sp (List.take m xs))), AVal.bool true], []) else none else none else none else none) := by kernel_rfl
theorem run : ∀ args v new, R args = some (true, v, new) → ∃ fuel, runFn Try.prog (orc [⟨42, isLine.R⟩, ⟨43, iLine.R⟩, ⟨44, sumOf.R⟩]) hd0 Dr.std (some 0) fuel (bodyOf Try.f22) 21 [6, 7] args [] = some (v, new) := by
  intro args v new h
  unfold R at h
  split at h
  · rename_i xs m ys k d
    simp only [Option.some.injEq, Prod.mk.injEq, decide_eq_true_eq] at h
    obtain ⟨⟨h1, h2, h3, h4⟩, rfl, rfl⟩ := h
    have e1 : (xs.take m).length = m := by simp; omega
    have e2 : (ys.take k).length = k := by simp; omega
    refine ⟨0, ?_⟩
    rw [go]
    unfold ln.wait.sv
    simp only [h1, h2, h3, h4, and_self, decide_true, decide_false, Bool.and_self, Bool.or_self, Bool.and_true, Bool.true_and, Bool.and_false, Bool.false_and, Bool.or_true, Bool.true_or, Bool.or_false, Bool.false_or, Bool.not_true, Bool.not_false, cond_true, cond_false]
    cases hv : ln.sp (xs.take m) (ys.take k) d
    · rfl
    · obtain ⟨v1, v2, v3, v4⟩ := ln.valid hv
      have hlen : (ln.sv (xs.take m) (ys.take k) d).length = m := by unfold ln.sv; rw [ln.go_length _ _ _ (by omega), e1]
      rw [e1] at v1
      have hl4 : (ln.sv (xs.take m) (ys.take k) d).length ≤ 4611686018427387904 := by omega
      simp only [hl4, Nat.le_refl, List.take_length, ln.sumOf_diff, and_self, decide_true, decide_false, Bool.and_self, Bool.or_self, Bool.and_true, Bool.true_and, Bool.and_false, Bool.false_and, Bool.or_true, Bool.true_or, Bool.or_false, Bool.false_or, Bool.not_true, Bool.not_false, cond_true, cond_false]
  · cases h
theorem ok : EntOk Try.prog ⟨22, R⟩ :=
  ent_okA mixed (A := (orc [⟨42, isLine.R⟩, ⟨43, iLine.R⟩, ⟨44, sumOf.R⟩])) (orc_ok (by simp only [List.mem_cons, List.not_mem_nil, or_false, forall_eq_or_imp, forall_eq]; exact ⟨isLine.ok, iLine.ok, sumOf.ok⟩)) Try.func22 (by kernel_rfl) (by kernel_rfl) (n := 21) (ts := [6, 7]) (hd := hd0) (dr := Dr.std) (cut := (some 0)) (by kernel_rfl) (by kernel_rfl) (by kernel_rfl) run
end iWaitOf




end Go.Proofs.Ytadpndpbooofiaa.Ab
