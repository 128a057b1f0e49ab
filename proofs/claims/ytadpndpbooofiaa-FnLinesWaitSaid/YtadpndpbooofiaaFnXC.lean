/-
  Functions: lines, and how long all wait.
-/
import Derived.Test.YtadpndpbooofiaaFnXB
namespace Go.Proofs.Ytadpndpbooofiaa.Ab
open Go
set_option linter.unusedVariables false
set_option linter.unusedSimpArgs false
set_option maxRecDepth 100000

namespace iLineOf_t
def R : List AVal → Option (Bool × AVal × List Blk)
  | [.ro (.ints .i64 xs) m 1, .ro (.ints .i64 ys) k 1, .int .i64 d] => some (decide (m ≤ xs.length ∧ m ≤ 4611686018427387904 ∧ k ≤ ys.length ∧ k ≤ 4611686018427387904) && ln.sp (xs.take m) (ys.take k) d, .tup [.own 0 0 (ln.sv (xs.take m) (ys.take k) d).length 0 1, .bool true], [⟨.typ (.ints .i64 (ln.sv (xs.take m) (ys.take k) d)), 0⟩])
  | _ => none
theorem go (xs ys : List Int) (m k : Nat) (d : Int) :
  runFn Try.prog (orc [⟨42, isLine.R⟩, ⟨43, iLine.R⟩]) hd0 Dr.std none 0 (bodyOf Try.f21) 17 [6, 7] [.ro (.ints .i64 xs) m 1, .ro (.ints .i64 ys) k 1, .int .i64 d] []
  = (bif decide (m ≤ xs.length ∧ m ≤ (4611686018427387904 : Nat) ∧ k ≤ ys.length ∧ k ≤ (4611686018427387904 : Nat)) && (true && (true && (true && true)) || true && true) then bif !ln.sp (List.take m xs) (List.take k ys) d then some (AVal.tup [AVal.nils, AVal.bool false], []) else bif decide (m ≤ xs.length ∧ m ≤ (4611686018427387904 : Nat) ∧ k ≤ ys.length ∧ k ≤ (4611686018427387904 : Nat)) && ln.sp (List.take m xs) (List.take k ys) d && (true && (true && (true && true)) || true && (true && true)) then some (AVal.tup [AVal.own (0 : Nat) (0 : Nat) (ln.sv (List.take m xs) (List.take k ys) d).length (0 : Nat) (1 : Nat), AVal.bool true], [{ c := BC.typ (Cont.ints IntKind.i64 (ln.sv (List.take m xs) (List.take k ys) d)), ver := (0 : Nat) }]) else none else none) := by kernel_rfl
theorem run : ∀ args v new, R args = some (true, v, new) → ∃ fuel, runFn Try.prog (orc [⟨42, isLine.R⟩, ⟨43, iLine.R⟩]) hd0 Dr.std none fuel (bodyOf Try.f21) 17 [6, 7] args [] = some (v, new) := by
  intro args v new h
  unfold R at h
  split at h
  · rename_i xs m ys k d
    simp only [Option.some.injEq, Prod.mk.injEq, Bool.and_eq_true, decide_eq_true_eq, Bool.not_eq_true'] at h
    obtain ⟨⟨⟨h1, h2, h3, h4⟩, hv⟩, rfl, rfl⟩ := h
    have e1 : (xs.take m).length = m := by simp; omega
    have e2 : (ys.take k).length = k := by simp; omega
    refine ⟨0, ?_⟩
    rw [go]
    simp only [h1, h2, h3, h4, hv, and_self, decide_true, decide_false, Bool.and_self, Bool.or_self, Bool.and_true, Bool.true_and, Bool.and_false, Bool.false_and, Bool.or_true, Bool.true_or, Bool.or_false, Bool.false_or, Bool.not_true, Bool.not_false, cond_true, cond_false]
    try rfl
  · cases h
theorem ok : EntOk Try.prog ⟨21, R⟩ :=
  ent_okA mixed (A := (orc [⟨42, isLine.R⟩, ⟨43, iLine.R⟩])) (orc_ok (by simp only [List.mem_cons, List.not_mem_nil, or_false, forall_eq_or_imp, forall_eq]; exact ⟨isLine.ok, iLine.ok⟩)) Try.func21 (by kernel_rfl) (by kernel_rfl) (n := 17) (ts := [6, 7]) (hd := hd0) (dr := Dr.std) (cut := none) (by kernel_rfl) (by kernel_rfl) (by kernel_rfl) run
end iLineOf_t

namespace iLineOf_f
def R : List AVal → Option (Bool × AVal × List Blk)
  | [.ro (.ints .i64 xs) m 1, .ro (.ints .i64 ys) k 1, .int .i64 d] => some (decide (m ≤ xs.length ∧ m ≤ 4611686018427387904 ∧ k ≤ ys.length ∧ k ≤ 4611686018427387904) && !ln.sp (xs.take m) (ys.take k) d, .tup [.nils, .bool false], [])
  | _ => none
theorem go (xs ys : List Int) (m k : Nat) (d : Int) :
  runFn Try.prog (orc [⟨42, isLine.R⟩]) hd0 Dr.std (some 0) 0 (bodyOf Try.f21) 17 [6, 7] [.ro (.ints .i64 xs) m 1, .ro (.ints .i64 ys) k 1, .int .i64 d] []
  = (bif decide (m ≤ xs.length ∧ m ≤ (4611686018427387904 : Nat) ∧ k ≤ ys.length ∧ k ≤ (4611686018427387904 : Nat)) && (true && (true && (true && true)) || true && true) then bif !ln.sp (List.take m xs) (List.take k ys) d then some (AVal.tup [AVal.nils, AVal.bool false], []) else none else none) := by kernel_rfl
theorem run : ∀ args v new, R args = some (true, v, new) → ∃ fuel, runFn Try.prog (orc [⟨42, isLine.R⟩]) hd0 Dr.std (some 0) fuel (bodyOf Try.f21) 17 [6, 7] args [] = some (v, new) := by
  intro args v new h
  unfold R at h
  split at h
  · rename_i xs m ys k d
    simp only [Option.some.injEq, Prod.mk.injEq, Bool.and_eq_true, decide_eq_true_eq, Bool.not_eq_true'] at h
    obtain ⟨⟨⟨h1, h2, h3, h4⟩, hv⟩, rfl, rfl⟩ := h
    have e1 : (xs.take m).length = m := by simp; omega
    have e2 : (ys.take k).length = k := by simp; omega
    refine ⟨0, ?_⟩
    rw [go]
    simp only [h1, h2, h3, h4, hv, and_self, decide_true, decide_false, Bool.and_self, Bool.or_self, Bool.and_true, Bool.true_and, Bool.and_false, Bool.false_and, Bool.or_true, Bool.true_or, Bool.or_false, Bool.false_or, Bool.not_true, Bool.not_false, cond_true, cond_false]
    try rfl
  · cases h
theorem ok : EntOk Try.prog ⟨21, R⟩ :=
  ent_okA mixed (A := (orc [⟨42, isLine.R⟩])) (orc_ok (by simp only [List.mem_cons, List.not_mem_nil, or_false, forall_eq_or_imp, forall_eq]; exact isLine.ok)) Try.func21 (by kernel_rfl) (by kernel_rfl) (n := 17) (ts := [6, 7]) (hd := hd0) (dr := Dr.std) (cut := (some 0)) (by kernel_rfl) (by kernel_rfl) (by kernel_rfl) run
end iLineOf_f

namespace iLineOf
def Rt := iLineOf_t.R
def Rf := iLineOf_f.R
theorem okt : EntOk Try.prog ⟨21, Rt⟩ := iLineOf_t.ok
theorem okf : EntOk Try.prog ⟨21, Rf⟩ := iLineOf_f.ok
end iLineOf




end Go.Proofs.Ytadpndpbooofiaa.Ab
