/-
  Functions: the laws of lines.
-/
import Derived.Test.YtodmicbmdpjoaaaFnXD
namespace Go.Proofs.Ytodmicbmdpjoaaa.Ab
open Go
set_option linter.unusedVariables false
set_option linter.unusedSimpArgs false
set_option maxRecDepth 100000

namespace FnExactWaitOf
def R : List AVal → Option (Bool × AVal × List Blk)
  | [.ro (.ints .i64 xs) m 1, .ro (.ints .i64 ys) k 1, .int .i64 d] => some (decide (m ≤ xs.length ∧ k ≤ ys.length), .bool true, [])
  | _ => none
theorem go (xs ys : List Int) (m k : Nat) (d : Int) :
  runFn Try.prog (orc [⟨12, toInt64S.R⟩, ⟨17, sWaitOf.R⟩, ⟨18, iWaitOf.R⟩, ⟨14, eqInt64S.R⟩]) hd0 Dr.std (some 0) 0 (bodyOf Try.f4) 57 [6] [.ro (.ints .i64 xs) m 1, .ro (.ints .i64 ys) k 1, .int .i64 d] []
  = (bif decide ((1048576 : Int) < (↑m : Int)) then some (AVal.bool true, []) else bif decide ((1048576 : Int) < (↑k : Int)) then some (AVal.bool true, []) else bif decide (m ≤ xs.length ∧ m ≤ (1048576 : Nat)) && (true && true || true && (true && true)) then bif decide (k ≤ ys.length ∧ k ≤ (1048576 : Nat)) && (true && true || true && (true && true)) then bif decide (m ≤ (List.take m xs).length ∧ m ≤ (4611686018427387904 : Nat) ∧ k ≤ (List.take k ys).length ∧ k ≤ (4611686018427387904 : Nat)) && (false && (false && (true && true)) || true && (true && true) && true) then bif decide (m ≤ xs.length ∧ m ≤ (1048576 : Nat)) && (true && true || true && (true && true)) then bif decide (k ≤ ys.length ∧ k ≤ (1048576 : Nat)) && (true && true || true && (true && true)) then bif decide (m ≤ (List.take m xs).length ∧ m ≤ (4611686018427387904 : Nat) ∧ k ≤ (List.take k ys).length ∧ k ≤ (4611686018427387904 : Nat)) && (false && (false && (true && true)) || true && (true && true) && true) then bif ln.wait.sv (List.take m (List.take m xs)) (List.take k (List.take k ys)) d != ln.wait.sv (List.take m (List.take m xs)) (List.take k (List.take k ys)) d then some (AVal.bool false, []) else bif !ln.sp (List.take m (List.take m xs)) (List.take k (List.take k ys)) d == ln.sp (List.take m (List.take m xs)) (List.take k (List.take k ys)) d then some (AVal.bool false, []) else bif decide (m ≤ xs.length ∧ m ≤ (1048576 : Nat)) && (true && true || true && (true && true)) then bif decide (m ≤ (List.take m xs).length ∧ m ≤ (List.take m xs).length ∧ m ≤ (4611686018427387904 : Nat)) && (false && (false && true) || true && true) then bif !decide (List.take m (List.take m xs) = List.take m (List.take m xs)) then some (AVal.bool false, []) else bif decide (k ≤ ys.length ∧ k ≤ (1048576 : Nat)) && (true && true || true && (true && true)) then bif decide (k ≤ (List.take k ys).length ∧ k ≤ (List.take k ys).length ∧ k ≤ (4611686018427387904 : Nat)) && (false && (false && true) || true && true) then bif !decide (List.take k (List.take k ys) = List.take k (List.take k ys)) then some (AVal.bool false, []) else some (AVal.bool true, []) else none else none else none else none else none else none else none else none else none else none) := by kernel_rfl
theorem run : ∀ args v new, R args = some (true, v, new) → ∃ fuel, runFn Try.prog (orc [⟨12, toInt64S.R⟩, ⟨17, sWaitOf.R⟩, ⟨18, iWaitOf.R⟩, ⟨14, eqInt64S.R⟩]) hd0 Dr.std (some 0) fuel (bodyOf Try.f4) 57 [6] args [] = some (v, new) := by
  intro args v new h
  unfold R at h
  split at h
  · rename_i xs m ys k d
    simp only [Option.some.injEq, Prod.mk.injEq, decide_eq_true_eq] at h
    obtain ⟨⟨h1, h3⟩, rfl, rfl⟩ := h
    refine ⟨0, ?_⟩
    rw [go]
    by_cases b0 : (1048576 : Int) < (m : Int)
    · simp only [b0, decide_true, cond_true]
    by_cases b1 : (1048576 : Int) < (k : Int)
    · simp only [b0, b1, decide_true, decide_false, cond_false, cond_true]
    have g1 : m ≤ 1048576 := by omega
    have g2 : k ≤ 1048576 := by omega
    have g3 : m ≤ 4611686018427387904 := by omega
    have g4 : k ≤ 4611686018427387904 := by omega
    have e1 : (xs.take m).length = m := by simp; omega
    have e2 : (ys.take k).length = k := by simp; omega
    simp only [b0, b1, g1, g2, g3, g4, e1, e2, h1, h3, List.take_take, Nat.min_self, Nat.le_refl, List.take_length, marks_length, take_marks, one_neg, i0_1, i1_b, true_and, and_true, and_self, decide_true, decide_false, Bool.and_self, Bool.or_self, Bool.and_true, Bool.true_and, Bool.and_false, Bool.false_and, Bool.or_true, Bool.true_or, Bool.or_false, Bool.false_or, Bool.not_true, Bool.not_false, cond_true, cond_false, bne_self_eq_false, beq_self_eq_true]
  · cases h
theorem ok : EntOk Try.prog ⟨4, R⟩ :=
  ent_okA mixed (A := (orc [⟨12, toInt64S.R⟩, ⟨17, sWaitOf.R⟩, ⟨18, iWaitOf.R⟩, ⟨14, eqInt64S.R⟩])) (orc_ok (by simp only [List.mem_cons, List.not_mem_nil, or_false, forall_eq_or_imp, forall_eq]; exact ⟨toInt64S.ok, sWaitOf.ok, iWaitOf.ok, eqInt64S.ok⟩)) Try.func4 (by kernel_rfl) (by kernel_rfl) (n := 57) (ts := [6]) (hd := hd0) (dr := Dr.std) (cut := (some 0)) (by kernel_rfl) (by kernel_rfl) (by kernel_rfl) run
end FnExactWaitOf

namespace FnExactLineOft
def R : List AVal → Option (Bool × AVal × List Blk)
  | [.ro (.ints .i64 xs) m 1, .ro (.ints .i64 ys) m1 1, .int .i64 d] => some (decide ((1048576 : Int) < (m : Int) ∨ (1048576 : Int) < (m1 : Int)) || (decide (m ≤ xs.length ∧ m ≤ 1048576 ∧ m1 ≤ ys.length ∧ m1 ≤ 1048576) && (ln.sp (xs.take m) (ys.take m1) d)), .bool true, [])
  | _ => none
theorem go (xs : List Int) (m : Nat) (ys : List Int) (m1 : Nat) (d : Int) :
  runFn Try.prog (orcW [⟨15, markInt64S.R⟩] [⟨12, toInt64S.R⟩, ⟨11, sLineOf.Rt⟩, ⟨13, iLineOf.Rt⟩, ⟨14, eqInt64N.R⟩, ⟨16, heldInt64S.R⟩]) hd0 Dr.std (some 0) 0 (bodyOf Try.f3) 119 [6] [.ro (.ints .i64 xs) m 1, .ro (.ints .i64 ys) m1 1, .int .i64 d] []
  = (bif decide ((1048576 : Int) < (↑m : Int)) then some (AVal.bool true, []) else bif decide ((1048576 : Int) < (↑m1 : Int)) then some (AVal.bool true, []) else bif decide (m ≤ xs.length ∧ m ≤ (1048576 : Nat)) && (true && true || true && (true && true)) then bif decide (m1 ≤ ys.length ∧ m1 ≤ (1048576 : Nat)) && (true && true || true && (true && true)) then bif decide (m ≤ (List.take m xs).length ∧ m ≤ (4611686018427387904 : Nat) ∧ m1 ≤ (List.take m1 ys).length ∧ m1 ≤ (4611686018427387904 : Nat)) && ln.sp (List.take m (List.take m xs)) (List.take m1 (List.take m1 ys)) d && (false && (false && (true && true)) || true && true && (true && true)) then bif decide (m ≤ xs.length ∧ m ≤ (1048576 : Nat)) && (true && true || true && (true && true)) then bif decide (m1 ≤ ys.length ∧ m1 ≤ (1048576 : Nat)) && (true && true || true && (true && true)) then bif decide (m ≤ (List.take m xs).length ∧ m ≤ (4611686018427387904 : Nat) ∧ m1 ≤ (List.take m1 ys).length ∧ m1 ≤ (4611686018427387904 : Nat)) && ln.sp (List.take m (List.take m xs)) (List.take m1 (List.take m1 ys)) d && (false && (false && (true && true)) || true && true && (true && true)) then bif decide ((ln.sv (List.take m (List.take m xs)) (List.take m1 (List.take m1 ys)) d).length ≤ (ln.sv (List.take m (List.take m xs)) (List.take m1 (List.take m1 ys)) d).length ∧ (ln.sv (List.take m (List.take m xs)) (List.take m1 (List.take m1 ys)) d).length ≤ (ln.sv (List.take m (List.take m xs)) (List.take m1 (List.take m1 ys)) d).length ∧ (ln.sv (List.take m (List.take m xs)) (List.take m1 (List.take m1 ys)) d).length ≤ (4611686018427387904 : Nat)) && (false && (false && true) || true && true) then bif !decide (List.take (ln.sv (List.take m (List.take m xs)) (List.take m1 (List.take m1 ys)) d).length (ln.sv (List.take m (List.take m xs)) (List.take m1 (List.take m1 ys)) d) = List.take (ln.sv (List.take m (List.take m xs)) (List.take m1 (List.take m1 ys)) d).length (ln.sv (List.take m (List.take m xs)) (List.take m1 (List.take m1 ys)) d)) then some (AVal.bool false, []) else bif decide (m ≤ xs.length ∧ m ≤ (1048576 : Nat)) && (true && true || true && (true && true)) then bif decide (m ≤ (List.take m xs).length ∧ m ≤ (List.take m xs).length ∧ m ≤ (4611686018427387904 : Nat)) && (false && (false && true) || true && true) then bif !decide (List.take m (List.take m xs) = List.take m (List.take m xs)) then some (AVal.bool false, []) else bif decide (m1 ≤ ys.length ∧ m1 ≤ (1048576 : Nat)) && (true && true || true && (true && true)) then bif decide (m1 ≤ (List.take m1 ys).length ∧ m1 ≤ (List.take m1 ys).length ∧ m1 ≤ (4611686018427387904 : Nat)) && (false && (false && true) || true && true) then bif !decide (List.take m1 (List.take m1 ys) = List.take m1 (List.take m1 ys)) then some (AVal.bool false, []) else bif decide (m = (List.take m xs).length ∧ m ≤ (4611686018427387904 : Nat) ∧ (0 : Int) ≤ (1 : Int) ∧ (1 : Int) ≤ (1000000000 : Int)) && (true && true && (true && true)) then bif decide (m1 = (List.take m1 ys).length ∧ m1 ≤ (4611686018427387904 : Nat) ∧ (0 : Int) ≤ (1 : Int) + (↑m : Int) ∧ (1 : Int) + (↑m : Int) ≤ (1000000000 : Int)) && (true && true && (true && true)) then bif decide ((1 : Int) + (↑m : Int) + (↑m1 : Int) < (0 : Int)) then some (AVal.bool false, []) else bif decide ((ln.sv (List.take m (List.take m xs)) (List.take m1 (List.take m1 ys)) d).length ≤ (ln.sv (List.take m (List.take m xs)) (List.take m1 (List.take m1 ys)) d).length ∧ (ln.sv (List.take m (List.take m xs)) (List.take m1 (List.take m1 ys)) d).length ≤ (ln.sv (List.take m (List.take m xs)) (List.take m1 (List.take m1 ys)) d).length ∧ (ln.sv (List.take m (List.take m xs)) (List.take m1 (List.take m1 ys)) d).length ≤ (4611686018427387904 : Nat)) && (false && (false && true) || true && true) then bif !decide (List.take (ln.sv (List.take m (List.take m xs)) (List.take m1 (List.take m1 ys)) d).length (ln.sv (List.take m (List.take m xs)) (List.take m1 (List.take m1 ys)) d) = List.take (ln.sv (List.take m (List.take m xs)) (List.take m1 (List.take m1 ys)) d).length (ln.sv (List.take m (List.take m xs)) (List.take m1 (List.take m1 ys)) d)) then some (AVal.bool false, []) else bif decide ((ln.sv (List.take m (List.take m xs)) (List.take m1 (List.take m1 ys)) d).length = (ln.sv (List.take m (List.take m xs)) (List.take m1 (List.take m1 ys)) d).length ∧ (ln.sv (List.take m (List.take m xs)) (List.take m1 (List.take m1 ys)) d).length ≤ (4611686018427387904 : Nat) ∧ (0 : Int) ≤ (1 : Int) ∧ (1 : Int) ≤ (1000000000 : Int)) && (true && true && (true && true)) then bif decide ((ln.sv (List.take m (List.take m xs)) (List.take m1 (List.take m1 ys)) d).length ≤ (marks.sv (1 : Int) (ln.sv (List.take m (List.take m xs)) (List.take m1 (List.take m1 ys)) d).length).length ∧ (ln.sv (List.take m (List.take m xs)) (List.take m1 (List.take m1 ys)) d).length ≤ (4611686018427387904 : Nat) ∧ (0 : Int) ≤ (1 : Int) ∧ (1 : Int) ≤ (1000000000 : Int)) && (false && true || true && true) then bif decide ((bif decide (List.take (ln.sv (List.take m (List.take m xs)) (List.take m1 (List.take m1 ys)) d).length (marks.sv (1 : Int) (ln.sv (List.take m (List.take m xs)) (List.take m1 (List.take m1 ys)) d).length) = marks.sv (1 : Int) (ln.sv (List.take m (List.take m xs)) (List.take m1 (List.take m1 ys)) d).length) then (1 : Int) + (↑(ln.sv (List.take m (List.take m xs)) (List.take m1 (List.take m1 ys)) d).length : Int) else (-1 : Int)) < (0 : Int)) then some (AVal.bool false, []) else bif (bif decide (List.take (ln.sv (List.take m (List.take m xs)) (List.take m1 (List.take m1 ys)) d).length (marks.sv (1 : Int) (ln.sv (List.take m (List.take m xs)) (List.take m1 (List.take m1 ys)) d).length) = marks.sv (1 : Int) (ln.sv (List.take m (List.take m xs)) (List.take m1 (List.take m1 ys)) d).length) then (1 : Int) + (↑(ln.sv (List.take m (List.take m xs)) (List.take m1 (List.take m1 ys)) d).length : Int) else (-1 : Int)) != (1 : Int) + (↑(ln.sv (List.take m (List.take m xs)) (List.take m1 (List.take m1 ys)) d).length : Int) then some (AVal.bool false, []) else bif decide (m ≤ xs.length ∧ m ≤ (1048576 : Nat)) && (true && true || true && (true && true)) then bif decide (m1 ≤ ys.length ∧ m1 ≤ (1048576 : Nat)) && (true && true || true && (true && true)) then bif decide (m ≤ (List.take m xs).length ∧ m ≤ (4611686018427387904 : Nat) ∧ m1 ≤ (List.take m1 ys).length ∧ m1 ≤ (4611686018427387904 : Nat)) && ln.sp (List.take m (List.take m xs)) (List.take m1 (List.take m1 ys)) d && (false && (false && (true && true)) || true && true && (true && true)) then bif decide ((ln.sv (List.take m (List.take m xs)) (List.take m1 (List.take m1 ys)) d).length ≤ (ln.sv (List.take m (List.take m xs)) (List.take m1 (List.take m1 ys)) d).length ∧ (ln.sv (List.take m (List.take m xs)) (List.take m1 (List.take m1 ys)) d).length ≤ (ln.sv (List.take m (List.take m xs)) (List.take m1 (List.take m1 ys)) d).length ∧ (ln.sv (List.take m (List.take m xs)) (List.take m1 (List.take m1 ys)) d).length ≤ (4611686018427387904 : Nat)) && (false && (false && true) || true && true) then bif !decide (List.take (ln.sv (List.take m (List.take m xs)) (List.take m1 (List.take m1 ys)) d).length (ln.sv (List.take m (List.take m xs)) (List.take m1 (List.take m1 ys)) d) = List.take (ln.sv (List.take m (List.take m xs)) (List.take m1 (List.take m1 ys)) d).length (ln.sv (List.take m (List.take m xs)) (List.take m1 (List.take m1 ys)) d)) then some (AVal.bool false, []) else bif decide ((ln.sv (List.take m (List.take m xs)) (List.take m1 (List.take m1 ys)) d).length ≤ (marks.sv (1 : Int) (ln.sv (List.take m (List.take m xs)) (List.take m1 (List.take m1 ys)) d).length).length ∧ (ln.sv (List.take m (List.take m xs)) (List.take m1 (List.take m1 ys)) d).length ≤ (4611686018427387904 : Nat) ∧ (0 : Int) ≤ (1 : Int) ∧ (1 : Int) ≤ (1000000000 : Int)) && (false && true || true && true) then bif decide ((bif decide (List.take (ln.sv (List.take m (List.take m xs)) (List.take m1 (List.take m1 ys)) d).length (marks.sv (1 : Int) (ln.sv (List.take m (List.take m xs)) (List.take m1 (List.take m1 ys)) d).length) = marks.sv (1 : Int) (ln.sv (List.take m (List.take m xs)) (List.take m1 (List.take m1 ys)) d).length) then (1 : Int) + (↑(ln.sv (List.take m (List.take m xs)) (List.take m1 (List.take m1 ys)) d).length : Int) else (-1 : Int)) < (0 : Int)) then some (AVal.bool false, []) else bif (bif decide (List.take (ln.sv (List.take m (List.take m xs)) (List.take m1 (List.take m1 ys)) d).length (marks.sv (1 : Int) (ln.sv (List.take m (List.take m xs)) (List.take m1 (List.take m1 ys)) d).length) = marks.sv (1 : Int) (ln.sv (List.take m (List.take m xs)) (List.take m1 (List.take m1 ys)) d).length) then (1 : Int) + (↑(ln.sv (List.take m (List.take m xs)) (List.take m1 (List.take m1 ys)) d).length : Int) else (-1 : Int)) != (1 : Int) + (↑(ln.sv (List.take m (List.take m xs)) (List.take m1 (List.take m1 ys)) d).length : Int) then some (AVal.bool false, []) else some (AVal.bool true, []) else none else none else none else none else none else none else none else none else none else none else none else none else none else none else none else none else none else none else none else none else none) := by kernel_rfl
theorem run : ∀ args v new, R args = some (true, v, new) → ∃ fuel, runFn Try.prog (orcW [⟨15, markInt64S.R⟩] [⟨12, toInt64S.R⟩, ⟨11, sLineOf.Rt⟩, ⟨13, iLineOf.Rt⟩, ⟨14, eqInt64N.R⟩, ⟨16, heldInt64S.R⟩]) hd0 Dr.std (some 0) fuel (bodyOf Try.f3) 119 [6] args [] = some (v, new) := by
  intro args v new h
  unfold R at h
  split at h
  · rename_i xs m ys m1 d
    simp only [Option.some.injEq, Prod.mk.injEq, Bool.or_eq_true, Bool.and_eq_true, decide_eq_true_eq, Bool.not_eq_true'] at h
    obtain ⟨h, rfl, rfl⟩ := h
    refine ⟨0, ?_⟩
    rw [go]
    by_cases b0 : (1048576 : Int) < (m : Int)
    · simp only [b0, decide_true, decide_false, cond_true, cond_false]
    by_cases b1 : (1048576 : Int) < (m1 : Int)
    · simp only [b0, b1, decide_true, decide_false, cond_true, cond_false]
    rcases h with h | h
    · exact absurd h (by omega)
    obtain ⟨⟨hl0, hl1, hl2, hl3⟩, hc⟩ := h
    have e0 : (xs.take m).length = m := by simp; omega
    have g0 : m ≤ 4611686018427387904 := by omega
    have e1 : (ys.take m1).length = m1 := by simp; omega
    have g1 : m1 ≤ 4611686018427387904 := by omega
    have ka0 : (0 : Int) ≤ 1 + (m : Int) := by omega
    have kb0 : 1 + (m : Int) ≤ 1000000000 := by omega
    have kc0 : ¬ (1 + (m : Int) < 0) := by omega
    have ka1 : (0 : Int) ≤ 1 + (m : Int) + (m1 : Int) := by omega
    have kb1 : 1 + (m : Int) + (m1 : Int) ≤ 1000000000 := by omega
    have kc1 : ¬ (1 + (m : Int) + (m1 : Int) < 0) := by omega
    have o0 : (ln.sv (xs.take m) (ys.take m1) d).length ≤ 4611686018427387904 := by have := ln.valid hc; unfold ln.sv; rw [ln.go_length _ _ _ (by omega)]; omega
    simp only [ka0, kb0, kc0, ka1, kb1, kc1, b0, b1, e0, e1, g0, g1, hl0, hl1, hl2, hl3, hc, o0, List.take_take, Nat.min_self, Nat.le_refl, List.take_length, marks_length, take_marks, one_neg, i0_1, i1_b, true_and, and_true, and_self, decide_true, decide_false, Bool.and_self, Bool.or_self, Bool.and_true, Bool.true_and, Bool.and_false, Bool.false_and, Bool.or_true, Bool.true_or, Bool.or_false, Bool.false_or, Bool.not_true, Bool.not_false, cond_true, cond_false, bne_self_eq_false, beq_self_eq_true]
  · cases h
theorem ok : EntOk Try.prog ⟨3, R⟩ :=
  ent_okA mixed (A := (orcW [⟨15, markInt64S.R⟩] [⟨12, toInt64S.R⟩, ⟨11, sLineOf.Rt⟩, ⟨13, iLineOf.Rt⟩, ⟨14, eqInt64N.R⟩, ⟨16, heldInt64S.R⟩])) (orcW_ok (by simp only [List.mem_cons, List.not_mem_nil, or_false, forall_eq_or_imp, forall_eq]; exact markInt64S.ok) (by simp only [List.mem_cons, List.not_mem_nil, or_false, forall_eq_or_imp, forall_eq]; exact ⟨toInt64S.ok, sLineOf.okt, iLineOf.okt, eqInt64N.ok, heldInt64S.ok⟩)) Try.func3 (by kernel_rfl) (by kernel_rfl) (n := 119) (ts := [6]) (hd := hd0) (dr := Dr.std) (cut := (some 0)) (by kernel_rfl) (by kernel_rfl) (by kernel_rfl) run
end FnExactLineOft

namespace FnExactLineOff
def R : List AVal → Option (Bool × AVal × List Blk)
  | [.ro (.ints .i64 xs) m 1, .ro (.ints .i64 ys) m1 1, .int .i64 d] => some (decide ((1048576 : Int) < (m : Int) ∨ (1048576 : Int) < (m1 : Int)) || (decide (m ≤ xs.length ∧ m ≤ 1048576 ∧ m1 ≤ ys.length ∧ m1 ≤ 1048576) && !(ln.sp (xs.take m) (ys.take m1) d)), .bool true, [])
  | _ => none
theorem go (xs : List Int) (m : Nat) (ys : List Int) (m1 : Nat) (d : Int) :
  runFn Try.prog (orcW [⟨15, markInt64S.R⟩] [⟨12, toInt64S.R⟩, ⟨11, sLineOf.Rf⟩, ⟨13, iLineOf.Rf⟩, ⟨14, eqInt64N.R⟩, ⟨16, heldInt64S.R⟩]) hd0 Dr.std (some 0) 0 (bodyOf Try.f3) 119 [6] [.ro (.ints .i64 xs) m 1, .ro (.ints .i64 ys) m1 1, .int .i64 d] []
  = (bif decide ((1048576 : Int) < (↑m : Int)) then some (AVal.bool true, []) else bif decide ((1048576 : Int) < (↑m1 : Int)) then some (AVal.bool true, []) else bif decide (m ≤ xs.length ∧ m ≤ (1048576 : Nat)) && (true && true || true && (true && true)) then bif decide (m1 ≤ ys.length ∧ m1 ≤ (1048576 : Nat)) && (true && true || true && (true && true)) then bif decide (m ≤ (List.take m xs).length ∧ m ≤ (4611686018427387904 : Nat) ∧ m1 ≤ (List.take m1 ys).length ∧ m1 ≤ (4611686018427387904 : Nat)) && !ln.sp (List.take m (List.take m xs)) (List.take m1 (List.take m1 ys)) d && (false && (false && (true && true)) || true && true) then bif decide (m ≤ xs.length ∧ m ≤ (1048576 : Nat)) && (true && true || true && (true && true)) then bif decide (m1 ≤ ys.length ∧ m1 ≤ (1048576 : Nat)) && (true && true || true && (true && true)) then bif decide (m ≤ (List.take m xs).length ∧ m ≤ (4611686018427387904 : Nat) ∧ m1 ≤ (List.take m1 ys).length ∧ m1 ≤ (4611686018427387904 : Nat)) && !ln.sp (List.take m (List.take m xs)) (List.take m1 (List.take m1 ys)) d && (false && (false && (true && true)) || true && true) then bif decide (m ≤ xs.length ∧ m ≤ (1048576 : Nat)) && (true && true || true && (true && true)) then bif decide (m ≤ (List.take m xs).length ∧ m ≤ (List.take m xs).length ∧ m ≤ (4611686018427387904 : Nat)) && (false && (false && true) || true && true) then bif !decide (List.take m (List.take m xs) = List.take m (List.take m xs)) then some (AVal.bool false, []) else bif decide (m1 ≤ ys.length ∧ m1 ≤ (1048576 : Nat)) && (true && true || true && (true && true)) then bif decide (m1 ≤ (List.take m1 ys).length ∧ m1 ≤ (List.take m1 ys).length ∧ m1 ≤ (4611686018427387904 : Nat)) && (false && (false && true) || true && true) then bif !decide (List.take m1 (List.take m1 ys) = List.take m1 (List.take m1 ys)) then some (AVal.bool false, []) else bif decide (m = (List.take m xs).length ∧ m ≤ (4611686018427387904 : Nat) ∧ (0 : Int) ≤ (1 : Int) ∧ (1 : Int) ≤ (1000000000 : Int)) && (true && true && (true && true)) then bif decide (m1 = (List.take m1 ys).length ∧ m1 ≤ (4611686018427387904 : Nat) ∧ (0 : Int) ≤ (1 : Int) + (↑m : Int) ∧ (1 : Int) + (↑m : Int) ≤ (1000000000 : Int)) && (true && true && (true && true)) then bif decide ((1 : Int) + (↑m : Int) + (↑m1 : Int) < (0 : Int)) then some (AVal.bool false, []) else bif true && (true && true) then bif decide (m ≤ xs.length ∧ m ≤ (1048576 : Nat)) && (true && true || true && (true && true)) then bif decide (m1 ≤ ys.length ∧ m1 ≤ (1048576 : Nat)) && (true && true || true && (true && true)) then bif decide (m ≤ (List.take m xs).length ∧ m ≤ (4611686018427387904 : Nat) ∧ m1 ≤ (List.take m1 ys).length ∧ m1 ≤ (4611686018427387904 : Nat)) && !ln.sp (List.take m (List.take m xs)) (List.take m1 (List.take m1 ys)) d && (false && (false && (true && true)) || true && true) then some (AVal.bool true, []) else none else none else none else none else none else none else none else none else none else none else none else none else none else none else none else none) := by kernel_rfl
theorem run : ∀ args v new, R args = some (true, v, new) → ∃ fuel, runFn Try.prog (orcW [⟨15, markInt64S.R⟩] [⟨12, toInt64S.R⟩, ⟨11, sLineOf.Rf⟩, ⟨13, iLineOf.Rf⟩, ⟨14, eqInt64N.R⟩, ⟨16, heldInt64S.R⟩]) hd0 Dr.std (some 0) fuel (bodyOf Try.f3) 119 [6] args [] = some (v, new) := by
  intro args v new h
  unfold R at h
  split at h
  · rename_i xs m ys m1 d
    simp only [Option.some.injEq, Prod.mk.injEq, Bool.or_eq_true, Bool.and_eq_true, decide_eq_true_eq, Bool.not_eq_true'] at h
    obtain ⟨h, rfl, rfl⟩ := h
    refine ⟨0, ?_⟩
    rw [go]
    by_cases b0 : (1048576 : Int) < (m : Int)
    · simp only [b0, decide_true, decide_false, cond_true, cond_false]
    by_cases b1 : (1048576 : Int) < (m1 : Int)
    · simp only [b0, b1, decide_true, decide_false, cond_true, cond_false]
    rcases h with h | h
    · exact absurd h (by omega)
    obtain ⟨⟨hl0, hl1, hl2, hl3⟩, hc⟩ := h
    have e0 : (xs.take m).length = m := by simp; omega
    have g0 : m ≤ 4611686018427387904 := by omega
    have e1 : (ys.take m1).length = m1 := by simp; omega
    have g1 : m1 ≤ 4611686018427387904 := by omega
    have ka0 : (0 : Int) ≤ 1 + (m : Int) := by omega
    have kb0 : 1 + (m : Int) ≤ 1000000000 := by omega
    have kc0 : ¬ (1 + (m : Int) < 0) := by omega
    have ka1 : (0 : Int) ≤ 1 + (m : Int) + (m1 : Int) := by omega
    have kb1 : 1 + (m : Int) + (m1 : Int) ≤ 1000000000 := by omega
    have kc1 : ¬ (1 + (m : Int) + (m1 : Int) < 0) := by omega
    simp only [ka0, kb0, kc0, ka1, kb1, kc1, b0, b1, e0, e1, g0, g1, hl0, hl1, hl2, hl3, hc, List.take_take, Nat.min_self, Nat.le_refl, List.take_length, marks_length, take_marks, one_neg, i0_1, i1_b, true_and, and_true, and_self, decide_true, decide_false, Bool.and_self, Bool.or_self, Bool.and_true, Bool.true_and, Bool.and_false, Bool.false_and, Bool.or_true, Bool.true_or, Bool.or_false, Bool.false_or, Bool.not_true, Bool.not_false, cond_true, cond_false, bne_self_eq_false, beq_self_eq_true]
  · cases h
theorem ok : EntOk Try.prog ⟨3, R⟩ :=
  ent_okA mixed (A := (orcW [⟨15, markInt64S.R⟩] [⟨12, toInt64S.R⟩, ⟨11, sLineOf.Rf⟩, ⟨13, iLineOf.Rf⟩, ⟨14, eqInt64N.R⟩, ⟨16, heldInt64S.R⟩])) (orcW_ok (by simp only [List.mem_cons, List.not_mem_nil, or_false, forall_eq_or_imp, forall_eq]; exact markInt64S.ok) (by simp only [List.mem_cons, List.not_mem_nil, or_false, forall_eq_or_imp, forall_eq]; exact ⟨toInt64S.ok, sLineOf.okf, iLineOf.okf, eqInt64N.ok, heldInt64S.ok⟩)) Try.func3 (by kernel_rfl) (by kernel_rfl) (n := 119) (ts := [6]) (hd := hd0) (dr := Dr.std) (cut := (some 0)) (by kernel_rfl) (by kernel_rfl) (by kernel_rfl) run
end FnExactLineOff

namespace FnExactLineOf
def R : List AVal → Option (Bool × AVal × List Blk)
  | [.ro (.ints .i64 xs) m 1, .ro (.ints .i64 ys) m1 1, .int .i64 d] => some (decide (m ≤ xs.length ∧ m1 ≤ ys.length), .bool true, [])
  | _ => none
theorem ok : EntOk Try.prog ⟨3, R⟩ := by
  refine EntOk.cases FnExactLineOft.ok FnExactLineOff.ok fun args v new h => ?_
  unfold R at h
  split at h
  · rename_i xs m ys m1 d
    simp only [Option.some.injEq, Prod.mk.injEq, decide_eq_true_eq] at h
    obtain ⟨h, rfl, rfl⟩ := h
    simp only [FnExactLineOft.R, FnExactLineOff.R, Option.some.injEq, Prod.mk.injEq, Bool.or_eq_true, Bool.and_eq_true, decide_eq_true_eq, Bool.not_eq_true', and_true]
    by_cases hb : (1048576 : Int) < (m : Int) ∨ (1048576 : Int) < (m1 : Int)
    · exact .inl (.inl hb)
    · have hs : m ≤ xs.length ∧ m ≤ 1048576 ∧ m1 ≤ ys.length ∧ m1 ≤ 1048576 := by omega
      cases hc : (ln.sp (xs.take m) (ys.take m1) d : Bool)
      · exact .inr (.inr ⟨hs, rfl⟩)
      · exact .inl (.inr ⟨hs, rfl⟩)
  · cases h
end FnExactLineOf

end Go.Proofs.Ytodmicbmdpjoaaa.Ab
