/-
  Functions: votes, runways, least winners, vetoes.
-/
import Derived.Test.YtekadpddilfolaaFnVR
namespace Go.Proofs.Ytekadpddilfolaa.Ab
open Go
set_option linter.unusedVariables false
set_option linter.unusedSimpArgs false
set_option maxRecDepth 100000

theorem fs.cq_get {n i : Nat} (h : i < n) : gz (cq.sv n) i = (i : Int) := by rw [gz_eq (by rw [cq.sv_length]; exact h)]; simp [cq.sv]



namespace wAllN
def R : List AVal → Option (Bool × AVal × List Blk)
  | [.agg [.int .i64 p, .ro (.ints .i64 ws) m 1]] => some (decide (m = ws.length ∧ m ≤ 64 ∧ 1 ≤ m), .int .i64 ((m : Nat) - 1 : Int), [])
  | _ => none
theorem go (p : Int) (ws : List Int) :
  runFn Try.prog (orc []) hd0 Dr.std none 0 (bodyOf Try.f73) 7 [2] [.agg [.int .i64 p, .ro (.ints .i64 ws) ws.length 1]] []
  = (bif true && true then some (AVal.int IntKind.i64 (IntKind.i64.wrap ((↑ws.length : Int) - (1 : Int))), [{ c := BC.cells [AVal.int IntKind.i64 p, AVal.ro (Cont.ints IntKind.i64 ws) ws.length (1 : Nat)], ver := (0 : Nat) }]) else none) := by kernel_rfl
theorem run : ∀ args v new, R args = some (true, v, new) → ∃ fuel, regc [] (runFn Try.prog (orc []) hd0 Dr.std none fuel (bodyOf Try.f73) 7 [2] args []) = some (v, new) := by
  intro args v new h
  unfold R at h
  split at h
  · rename_i p ws m
    simp only [Option.some.injEq, Prod.mk.injEq, decide_eq_true_eq] at h
    obtain ⟨⟨rfl, h1, h2⟩, rfl, rfl⟩ := h
    refine ⟨0, ?_⟩
    rw [go]
    simp -implicitDefEqProofs (disch := omega) only [take_one, set_one, decide_eq_true, decide_eq_false, IntWalk.i64_in, beqT, beqF, bneT, bneF, nat_succ, ← Int.natCast_mul, ← Int.natCast_add, Int.toNat_natCast, Int.zero_mul, Int.zero_add, Int.add_zero, Nat.zero_add, Nat.add_zero, Nat.zero_mul, List.length_singleton, List.length_append, List.length_nil, List.length_cons, List.take_length, List.drop_zero, List.replicate_zero, List.take_nil, List.nil_append, Nat.reduceBEq, Nat.reduceMul, Nat.reduceLeDiff, eq_self, and_self, true_and, and_true, decide_true, decide_false, Bool.and_self, Bool.or_self, Bool.and_true, Bool.true_and, Bool.and_false, Bool.false_and, Bool.or_true, Bool.true_or, Bool.or_false, Bool.false_or, Bool.not_true, Bool.not_false, cond_true, cond_false]
    rfl
  · cases h
theorem ok : EntOk Try.prog ⟨73, R⟩ :=
  ent_okAG (ks := []) mixed (A := (orc [])) (orc_ok (by simp)) Try.func73 (by kernel_rfl) (by kernel_rfl) (n := 7) (ts := [2]) (hd := hd0) (dr := Dr.std) (cut := none) (by kernel_rfl) (by kernel_rfl) (by kernel_rfl) run
end wAllN







end Go.Proofs.Ytekadpddilfolaa.Ab
