/-
  Functions: what crowds load.
-/
import Derived.Test.YtgeglpommdckgaaFnR
import Derived.Test.YtgeglpommdckgaaFnD
namespace Go.Proofs.Ytgeglpommdckgaa.Ab
open Go
set_option linter.unusedVariables false
set_option linter.unusedSimpArgs false
set_option maxRecDepth 100000

namespace markCrowd
def R : List AVal → Heap → Option (Bool × AVal × Heap)
  | [.agg [.int .i64 u, .int .i64 r, .own 0 0 mw 0 1, .own 1 0 mc 0 1], .int .i64 k], [⟨.typ (.ints .i64 ws), 0⟩, ⟨.typ (.ints .i64 cs), 0⟩] => some (decide (mw = ws.length ∧ mw ≤ 1048576 ∧ mc = cs.length ∧ mc ≤ 1048576 ∧ 0 ≤ k ∧ k ≤ 100000000), .int .i64 (k + mw + mc), [⟨.typ (.ints .i64 (marks.sv k mw)), 0⟩, ⟨.typ (.ints .i64 (marks.sv (k + mw) mc)), 0⟩])
  | _, _ => none
theorem go (u r : Int) (ws cs : List Int) (mw mc : Nat) (k : Int) :
  runFn Try.prog (orcW [⟨20, markInt64S.R⟩] []) hd0 Dr.std (some 0) 0 (bodyOf Try.f14) 14 [4] [.agg [.int .i64 u, .int .i64 r, .own 0 0 mw 0 1, .own 1 0 mc 0 1], .int .i64 k] [⟨.typ (.ints .i64 ws), 0⟩, ⟨.typ (.ints .i64 cs), 0⟩]
  = (bif true && (true && true) then bif true && true then bif decide (mw = ws.length ∧ mw ≤ (4611686018427387904 : Nat) ∧ (0 : Int) ≤ k ∧ k ≤ (1000000000 : Int)) && (true && (true && true)) then bif true && true then bif decide (mc = cs.length ∧ mc ≤ (4611686018427387904 : Nat) ∧ (0 : Int) ≤ k + (↑mw : Int) ∧ k + (↑mw : Int) ≤ (1000000000 : Int)) && (true && (true && true)) then some (AVal.int IntKind.i64 (k + (↑mw : Int) + (↑mc : Int)), [{ c := BC.typ (Cont.ints IntKind.i64 (marks.sv k mw)), ver := (0 : Nat) }, { c := BC.typ (Cont.ints IntKind.i64 (marks.sv (k + (↑mw : Int)) mc)), ver := (0 : Nat) }]) else none else none else none else none else none) := by kernel_rfl
theorem run : ∀ args H v new, R args H = some (true, v, new) → ∃ fuel, runFn Try.prog (orcW [⟨20, markInt64S.R⟩] []) hd0 Dr.std (some 0) fuel (bodyOf Try.f14) 14 [4] args H = some (v, new) := by
  intro args H v new h
  unfold R at h
  split at h
  · rename_i u r mw mc k ws cs
    simp only [Option.some.injEq, Prod.mk.injEq, decide_eq_true_eq] at h
    obtain ⟨⟨h1, h2, h3, h4, h5, h6⟩, rfl, rfl⟩ := h
    refine ⟨0, ?_⟩
    rw [go]
    have k1 : mw ≤ 4611686018427387904 := by omega
    have k2 : mc ≤ 4611686018427387904 := by omega
    have k3 : k ≤ 1000000000 := by omega
    have k4 : 0 ≤ k + (mw : Int) := by omega
    have k5 : k + (mw : Int) ≤ 1000000000 := by omega
    simp only [← h1, ← h3, k1, k2, k3, k4, k5, h5, and_self, decide_true, Bool.and_self, Bool.or_self, Bool.and_true, Bool.true_and, cond_true]
  · cases h
theorem ok : EntWOk Try.prog ⟨14, R⟩ :=
  entw_ok mixed (A := (orcW [⟨20, markInt64S.R⟩] [])) (orcW_ok (by simp only [List.mem_cons, List.not_mem_nil, or_false, forall_eq_or_imp, forall_eq]; exact markInt64S.ok) (by simp)) Try.func14 (by kernel_rfl) (by kernel_rfl) (n := 14) (ts := [4]) (hd := hd0) (dr := Dr.std) (cut := (some 0)) (by kernel_rfl) (by kernel_rfl) (by kernel_rfl) run
end markCrowd










end Go.Proofs.Ytgeglpommdckgaa.Ab
