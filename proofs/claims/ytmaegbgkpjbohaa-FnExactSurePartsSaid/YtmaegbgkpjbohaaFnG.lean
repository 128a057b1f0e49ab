/-
  Functions: the law of sure parts.
-/
import Derived.Test.YtmaegbgkpjbohaaFnF
namespace Go.Proofs.Ytmaegbgkpjbohaa.Ab
open Go
set_option linter.unusedVariables false
set_option linter.unusedSimpArgs false
set_option maxRecDepth 100000

namespace FnExactSurePartst
def R : List AVal → Option (Bool × AVal × List Blk)
  | [.ro (.ints .i64 xs) m 1, .int .i64 e] => some (decide ((1048576 : Int) < (m : Int)) || (decide (m ≤ xs.length ∧ m ≤ 1048576) && (l07Claims.sp (xs.take m) e)), .bool true, [])
  | _ => none
theorem go (xs : List Int) (m : Nat) (e : Int) :
  runFn Try.prog (orcW [⟨31, markInt64S.R⟩] [⟨15, toInt64S.R⟩, ⟨29, sSureParts.Rt⟩, ⟨30, iSureParts.Rt⟩, ⟨17, eqInt64N.R⟩, ⟨32, heldInt64S.R⟩]) hd0 Dr.std (some 0) 0 (bodyOf Try.f8) 98 [4] [.ro (.ints .i64 xs) m 1, .int .i64 e] []
  = (bif decide ((1048576 : Int) < (↑m : Int)) then some (AVal.bool true, []) else bif decide (m ≤ xs.length ∧ m ≤ (1048576 : Nat)) && (true && true || true && (true && true)) then bif decide (m ≤ (List.take m xs).length ∧ m ≤ (4611686018427387904 : Nat)) && l07Claims.sp (List.take m (List.take m xs)) e && (false && (true && true) || true && true && (true && true)) then bif decide (m ≤ xs.length ∧ m ≤ (1048576 : Nat)) && (true && true || true && (true && true)) then bif decide (m ≤ (List.take m xs).length ∧ m ≤ (4611686018427387904 : Nat)) && l07Claims.sp (List.take m (List.take m xs)) e && (false && (true && true) || true && true && (true && true)) then bif decide ((sSureParts.sv (List.take m (List.take m xs)) e).length ≤ (sSureParts.sv (List.take m (List.take m xs)) e).length ∧ (sSureParts.sv (List.take m (List.take m xs)) e).length ≤ (sSureParts.sv (List.take m (List.take m xs)) e).length ∧ (sSureParts.sv (List.take m (List.take m xs)) e).length ≤ (4611686018427387904 : Nat)) && (false && (false && true) || true && true) then bif !decide (List.take (sSureParts.sv (List.take m (List.take m xs)) e).length (sSureParts.sv (List.take m (List.take m xs)) e) = List.take (sSureParts.sv (List.take m (List.take m xs)) e).length (sSureParts.sv (List.take m (List.take m xs)) e)) then some (AVal.bool false, []) else bif decide (m ≤ xs.length ∧ m ≤ (1048576 : Nat)) && (true && true || true && (true && true)) then bif decide (m ≤ (List.take m xs).length ∧ m ≤ (List.take m xs).length ∧ m ≤ (4611686018427387904 : Nat)) && (false && (false && true) || true && true) then bif !decide (List.take m (List.take m xs) = List.take m (List.take m xs)) then some (AVal.bool false, []) else bif decide (m = (List.take m xs).length ∧ m ≤ (4611686018427387904 : Nat) ∧ (0 : Int) ≤ (1 : Int) ∧ (1 : Int) ≤ (1000000000 : Int)) && (true && true && (true && true)) then bif decide ((1 : Int) + (↑m : Int) < (0 : Int)) then some (AVal.bool false, []) else bif decide ((sSureParts.sv (List.take m (List.take m xs)) e).length ≤ (sSureParts.sv (List.take m (List.take m xs)) e).length ∧ (sSureParts.sv (List.take m (List.take m xs)) e).length ≤ (sSureParts.sv (List.take m (List.take m xs)) e).length ∧ (sSureParts.sv (List.take m (List.take m xs)) e).length ≤ (4611686018427387904 : Nat)) && (false && (false && true) || true && true) then bif !decide (List.take (sSureParts.sv (List.take m (List.take m xs)) e).length (sSureParts.sv (List.take m (List.take m xs)) e) = List.take (sSureParts.sv (List.take m (List.take m xs)) e).length (sSureParts.sv (List.take m (List.take m xs)) e)) then some (AVal.bool false, []) else bif decide ((sSureParts.sv (List.take m (List.take m xs)) e).length = (sSureParts.sv (List.take m (List.take m xs)) e).length ∧ (sSureParts.sv (List.take m (List.take m xs)) e).length ≤ (4611686018427387904 : Nat) ∧ (0 : Int) ≤ (1 : Int) ∧ (1 : Int) ≤ (1000000000 : Int)) && (true && true && (true && true)) then bif decide ((sSureParts.sv (List.take m (List.take m xs)) e).length ≤ (marks.sv (1 : Int) (sSureParts.sv (List.take m (List.take m xs)) e).length).length ∧ (sSureParts.sv (List.take m (List.take m xs)) e).length ≤ (4611686018427387904 : Nat) ∧ (0 : Int) ≤ (1 : Int) ∧ (1 : Int) ≤ (1000000000 : Int)) && (false && true || true && true) then bif decide ((bif decide (List.take (sSureParts.sv (List.take m (List.take m xs)) e).length (marks.sv (1 : Int) (sSureParts.sv (List.take m (List.take m xs)) e).length) = marks.sv (1 : Int) (sSureParts.sv (List.take m (List.take m xs)) e).length) then (1 : Int) + (↑(sSureParts.sv (List.take m (List.take m xs)) e).length : Int) else (-1 : Int)) < (0 : Int)) then some (AVal.bool false, []) else bif (bif decide (List.take (sSureParts.sv (List.take m (List.take m xs)) e).length (marks.sv (1 : Int) (sSureParts.sv (List.take m (List.take m xs)) e).length) = marks.sv (1 : Int) (sSureParts.sv (List.take m (List.take m xs)) e).length) then (1 : Int) + (↑(sSureParts.sv (List.take m (List.take m xs)) e).length : Int) else (-1 : Int)) != (1 : Int) + (↑(sSureParts.sv (List.take m (List.take m xs)) e).length : Int) then some (AVal.bool false, []) else bif decide (m ≤ xs.length ∧ m ≤ (1048576 : Nat)) && (true && true || true && (true && true)) then bif decide (m ≤ (List.take m xs).length ∧ m ≤ (4611686018427387904 : Nat)) && l07Claims.sp (List.take m (List.take m xs)) e && (false && (true && true) || true && true && (true && true)) then bif decide ((sSureParts.sv (List.take m (List.take m xs)) e).length ≤ (sSureParts.sv (List.take m (List.take m xs)) e).length ∧ (sSureParts.sv (List.take m (List.take m xs)) e).length ≤ (sSureParts.sv (List.take m (List.take m xs)) e).length ∧ (sSureParts.sv (List.take m (List.take m xs)) e).length ≤ (4611686018427387904 : Nat)) && (false && (false && true) || true && true) then bif !decide (List.take (sSureParts.sv (List.take m (List.take m xs)) e).length (sSureParts.sv (List.take m (List.take m xs)) e) = List.take (sSureParts.sv (List.take m (List.take m xs)) e).length (sSureParts.sv (List.take m (List.take m xs)) e)) then some (AVal.bool false, []) else bif decide ((sSureParts.sv (List.take m (List.take m xs)) e).length ≤ (marks.sv (1 : Int) (sSureParts.sv (List.take m (List.take m xs)) e).length).length ∧ (sSureParts.sv (List.take m (List.take m xs)) e).length ≤ (4611686018427387904 : Nat) ∧ (0 : Int) ≤ (1 : Int) ∧ (1 : Int) ≤ (1000000000 : Int)) && (false && true || true && true) then bif decide ((bif decide (List.take (sSureParts.sv (List.take m (List.take m xs)) e).length (marks.sv (1 : Int) (sSureParts.sv (List.take m (List.take m xs)) e).length) = marks.sv (1 : Int) (sSureParts.sv (List.take m (List.take m xs)) e).length) then (1 : Int) + (↑(sSureParts.sv (List.take m (List.take m xs)) e).length : Int) else (-1 : Int)) < (0 : Int)) then some (AVal.bool false, []) else bif (bif decide (List.take (sSureParts.sv (List.take m (List.take m xs)) e).length (marks.sv (1 : Int) (sSureParts.sv (List.take m (List.take m xs)) e).length) = marks.sv (1 : Int) (sSureParts.sv (List.take m (List.take m xs)) e).length) then (1 : Int) + (↑(sSureParts.sv (List.take m (List.take m xs)) e).length : Int) else (-1 : Int)) != (1 : Int) + (↑(sSureParts.sv (List.take m (List.take m xs)) e).length : Int) then some (AVal.bool false, []) else some (AVal.bool true, []) else none else none else none else none else none else none else none else none else none else none else none else none else none else none else none) := by kernel_rfl
theorem run : ∀ args v new, R args = some (true, v, new) → ∃ fuel, runFn Try.prog (orcW [⟨31, markInt64S.R⟩] [⟨15, toInt64S.R⟩, ⟨29, sSureParts.Rt⟩, ⟨30, iSureParts.Rt⟩, ⟨17, eqInt64N.R⟩, ⟨32, heldInt64S.R⟩]) hd0 Dr.std (some 0) fuel (bodyOf Try.f8) 98 [4] args [] = some (v, new) := by
  intro args v new h
  unfold R at h
  split at h
  · rename_i xs m e
    simp only [Option.some.injEq, Prod.mk.injEq, Bool.or_eq_true, Bool.and_eq_true, decide_eq_true_eq, Bool.not_eq_true'] at h
    obtain ⟨h, rfl, rfl⟩ := h
    refine ⟨0, ?_⟩
    rw [go]
    by_cases b0 : (1048576 : Int) < (m : Int)
    · simp only [b0, decide_true, decide_false, cond_true, cond_false]
    rcases h with h | h
    · exact absurd h (by omega)
    obtain ⟨⟨hl0, hl1⟩, hc⟩ := h
    have e0 : (xs.take m).length = m := by simp; omega
    have g0 : m ≤ 4611686018427387904 := by omega
    have o0 : (sSureParts.sv (xs.take m) e).length ≤ 4611686018427387904 := by rw [sSureParts.sv_length, e0]; omega
    simp only [b0, e0, g0, hl0, hl1, hc, o0, List.take_take, Nat.min_self, Nat.le_refl, List.take_length, marks_length, take_marks, one_neg, i0_1, i1_b, true_and, and_true, and_self, decide_true, decide_false, Bool.and_self, Bool.or_self, Bool.and_true, Bool.true_and, Bool.and_false, Bool.false_and, Bool.or_true, Bool.true_or, Bool.or_false, Bool.false_or, Bool.not_true, Bool.not_false, cond_true, cond_false, bne_self_eq_false, beq_self_eq_true]
  · cases h
theorem ok : EntOk Try.prog ⟨8, R⟩ :=
  ent_okA mixed (A := (orcW [⟨31, markInt64S.R⟩] [⟨15, toInt64S.R⟩, ⟨29, sSureParts.Rt⟩, ⟨30, iSureParts.Rt⟩, ⟨17, eqInt64N.R⟩, ⟨32, heldInt64S.R⟩])) (orcW_ok (by simp only [List.mem_cons, List.not_mem_nil, or_false, forall_eq_or_imp, forall_eq]; exact markInt64S.ok) (by simp only [List.mem_cons, List.not_mem_nil, or_false, forall_eq_or_imp, forall_eq]; exact ⟨toInt64S.ok, sSureParts.okt, iSureParts.okt, eqInt64N.ok, heldInt64S.ok⟩)) Try.func8 (by kernel_rfl) (by kernel_rfl) (n := 98) (ts := [4]) (hd := hd0) (dr := Dr.std) (cut := (some 0)) (by kernel_rfl) (by kernel_rfl) (by kernel_rfl) run
end FnExactSurePartst

namespace FnExactSurePartsf
def R : List AVal → Option (Bool × AVal × List Blk)
  | [.ro (.ints .i64 xs) m 1, .int .i64 e] => some (decide ((1048576 : Int) < (m : Int)) || (decide (m ≤ xs.length ∧ m ≤ 1048576) && !(l07Claims.sp (xs.take m) e)), .bool true, [])
  | _ => none
theorem go (xs : List Int) (m : Nat) (e : Int) :
  runFn Try.prog (orcW [⟨31, markInt64S.R⟩] [⟨15, toInt64S.R⟩, ⟨29, sSureParts.Rf⟩, ⟨30, iSureParts.Rf⟩, ⟨17, eqInt64N.R⟩, ⟨32, heldInt64S.R⟩]) hd0 Dr.std (some 0) 0 (bodyOf Try.f8) 98 [4] [.ro (.ints .i64 xs) m 1, .int .i64 e] []
  = (bif decide ((1048576 : Int) < (↑m : Int)) then some (AVal.bool true, []) else bif decide (m ≤ xs.length ∧ m ≤ (1048576 : Nat)) && (true && true || true && (true && true)) then bif decide (m ≤ (List.take m xs).length ∧ m ≤ (4611686018427387904 : Nat)) && !l07Claims.sp (List.take m (List.take m xs)) e && (false && (true && true) || true && true) then bif decide (m ≤ xs.length ∧ m ≤ (1048576 : Nat)) && (true && true || true && (true && true)) then bif decide (m ≤ (List.take m xs).length ∧ m ≤ (4611686018427387904 : Nat)) && !l07Claims.sp (List.take m (List.take m xs)) e && (false && (true && true) || true && true) then bif decide (m ≤ xs.length ∧ m ≤ (1048576 : Nat)) && (true && true || true && (true && true)) then bif decide (m ≤ (List.take m xs).length ∧ m ≤ (List.take m xs).length ∧ m ≤ (4611686018427387904 : Nat)) && (false && (false && true) || true && true) then bif !decide (List.take m (List.take m xs) = List.take m (List.take m xs)) then some (AVal.bool false, []) else bif decide (m = (List.take m xs).length ∧ m ≤ (4611686018427387904 : Nat) ∧ (0 : Int) ≤ (1 : Int) ∧ (1 : Int) ≤ (1000000000 : Int)) && (true && (true && true)) then bif decide ((1 : Int) + (↑m : Int) < (0 : Int)) then some (AVal.bool false, []) else bif true && (true && true) then bif decide (m ≤ xs.length ∧ m ≤ (1048576 : Nat)) && (true && true || true && (true && true)) then bif decide (m ≤ (List.take m xs).length ∧ m ≤ (4611686018427387904 : Nat)) && !l07Claims.sp (List.take m (List.take m xs)) e && (false && (true && true) || true && true) then some (AVal.bool true, []) else none else none else none else none else none else none else none else none else none else none) := by kernel_rfl
theorem run : ∀ args v new, R args = some (true, v, new) → ∃ fuel, runFn Try.prog (orcW [⟨31, markInt64S.R⟩] [⟨15, toInt64S.R⟩, ⟨29, sSureParts.Rf⟩, ⟨30, iSureParts.Rf⟩, ⟨17, eqInt64N.R⟩, ⟨32, heldInt64S.R⟩]) hd0 Dr.std (some 0) fuel (bodyOf Try.f8) 98 [4] args [] = some (v, new) := by
  intro args v new h
  unfold R at h
  split at h
  · rename_i xs m e
    simp only [Option.some.injEq, Prod.mk.injEq, Bool.or_eq_true, Bool.and_eq_true, decide_eq_true_eq, Bool.not_eq_true'] at h
    obtain ⟨h, rfl, rfl⟩ := h
    refine ⟨0, ?_⟩
    rw [go]
    by_cases b0 : (1048576 : Int) < (m : Int)
    · simp only [b0, decide_true, decide_false, cond_true, cond_false]
    rcases h with h | h
    · exact absurd h (by omega)
    obtain ⟨⟨hl0, hl1⟩, hc⟩ := h
    have e0 : (xs.take m).length = m := by simp; omega
    have g0 : m ≤ 4611686018427387904 := by omega
    simp only [b0, e0, g0, hl0, hl1, hc, List.take_take, Nat.min_self, Nat.le_refl, List.take_length, marks_length, take_marks, one_neg, i0_1, i1_b, true_and, and_true, and_self, decide_true, decide_false, Bool.and_self, Bool.or_self, Bool.and_true, Bool.true_and, Bool.and_false, Bool.false_and, Bool.or_true, Bool.true_or, Bool.or_false, Bool.false_or, Bool.not_true, Bool.not_false, cond_true, cond_false, bne_self_eq_false, beq_self_eq_true]
  · cases h
theorem ok : EntOk Try.prog ⟨8, R⟩ :=
  ent_okA mixed (A := (orcW [⟨31, markInt64S.R⟩] [⟨15, toInt64S.R⟩, ⟨29, sSureParts.Rf⟩, ⟨30, iSureParts.Rf⟩, ⟨17, eqInt64N.R⟩, ⟨32, heldInt64S.R⟩])) (orcW_ok (by simp only [List.mem_cons, List.not_mem_nil, or_false, forall_eq_or_imp, forall_eq]; exact markInt64S.ok) (by simp only [List.mem_cons, List.not_mem_nil, or_false, forall_eq_or_imp, forall_eq]; exact ⟨toInt64S.ok, sSureParts.okf, iSureParts.okf, eqInt64N.ok, heldInt64S.ok⟩)) Try.func8 (by kernel_rfl) (by kernel_rfl) (n := 98) (ts := [4]) (hd := hd0) (dr := Dr.std) (cut := (some 0)) (by kernel_rfl) (by kernel_rfl) (by kernel_rfl) run
end FnExactSurePartsf

namespace FnExactSureParts
def R : List AVal → Option (Bool × AVal × List Blk)
  | [.ro (.ints .i64 xs) m 1, .int .i64 e] => some (decide (m ≤ xs.length), .bool true, [])
  | _ => none
theorem ok : EntOk Try.prog ⟨8, R⟩ := by
  refine EntOk.cases FnExactSurePartst.ok FnExactSurePartsf.ok fun args v new h => ?_
  unfold R at h
  split at h
  · rename_i xs m e
    simp only [Option.some.injEq, Prod.mk.injEq, decide_eq_true_eq] at h
    obtain ⟨h, rfl, rfl⟩ := h
    simp only [FnExactSurePartst.R, FnExactSurePartsf.R, Option.some.injEq, Prod.mk.injEq, Bool.or_eq_true, Bool.and_eq_true, decide_eq_true_eq, Bool.not_eq_true', and_true]
    by_cases hb : (1048576 : Int) < (m : Int)
    · exact .inl (.inl hb)
    · have hs : m ≤ xs.length ∧ m ≤ 1048576 := by omega
      cases hc : (l07Claims.sp (xs.take m) e : Bool)
      · exact .inr (.inr ⟨hs, rfl⟩)
      · exact .inl (.inr ⟨hs, rfl⟩)
  · cases h
end FnExactSureParts

end Go.Proofs.Ytmaegbgkpjbohaa.Ab
