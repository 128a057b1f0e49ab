/-
  Functions: worths of sets, the small ones.
-/
import Derived.Test.YtekadpddilfolaaFnWP
import Derived.Test.YtekadpddilfolaaFnB
import Derived.Test.YtekadpddilfolaaFnNA
namespace Go.Proofs.Ytekadpddilfolaa.Ab
open Go
set_option linter.unusedVariables false
set_option linter.unusedSimpArgs false
set_option maxRecDepth 100000

namespace factorial
def R : List AVal → Option (Bool × AVal × List Blk)
  | [.int .i64 m] => some (decide (0 ≤ m ∧ m ≤ 6), .int .i64 (wo.fac.sv m.toNat), [])
  | _ => none
def hd : Nat → Head := fun _ => ⟨[3, 5, 6], none⟩
noncomputable def L (f n : Nat) (s : State) := loopAt Try.prog (orc []) hd Dr.std 0 f (bodyOf Try.f70) 0 [true, true, false, true] (retK Try.prog [2] 0 none) n s
theorem start (m : Int) (f : Nat) :
  runFn Try.prog (orc []) hd Dr.std none f (bodyOf Try.f70) 15 [2] [.int .i64 m] []
  = (L f f (mkS (15 : Nat) [((3 : Nat), AVal.int IntKind.i64 (1 : Int)), ((5 : Nat), AVal.int IntKind.i64 m), ((6 : Nat), AVal.int IntKind.i64 (0 : Int))] [])) := by kernel_rfl
theorem round (m x k : Int) (f n : Nat) :
  L f (n + 1) (mkS 15 [(3, .int .i64 x), (5, .int .i64 m), (6, .int .i64 k)] [])
  = (bif decide (k < m) then L f n (mkS (15 : Nat) [((3 : Nat), AVal.int IntKind.i64 (IntKind.i64.wrap (x * IntKind.i64.wrap (k + (1 : Int))))), ((5 : Nat), AVal.int IntKind.i64 m), ((6 : Nat), AVal.int IntKind.i64 (IntKind.i64.wrap (k + (1 : Int))))] []) else some (AVal.int IntKind.i64 x, [])) := by kernel_rfl
theorem loop (m f : Nat) (hm : m ≤ 6) : ∀ (d k n : Nat), k + d = m → d < n →
    L f n (mkS 15 [(3, .int .i64 (wo.fac.sv k)), (5, .int .i64 (m : Int)), (6, .int .i64 (k : Int))] []) = some (.int .i64 (wo.fac.sv m), []) := by
  intro d
  induction d with
  | zero =>
    intro k n hk hn
    obtain ⟨n, rfl⟩ : ∃ k, n = k + 1 := ⟨n - 1, by omega⟩
    obtain rfl : k = m := by omega
    rw [round]
    simp -implicitDefEqProofs (disch := omega) only [take_one, set_one, decide_eq_true, decide_eq_false, IntWalk.i64_in, beqT, beqF, bneT, bneF, nat_succ, ← Int.natCast_mul, ← Int.natCast_add, Int.toNat_natCast, Int.zero_mul, Int.zero_add, Int.add_zero, Nat.zero_add, Nat.add_zero, Nat.zero_mul, List.length_singleton, List.length_append, List.length_nil, List.length_cons, List.take_length, List.drop_zero, List.replicate_zero, List.take_nil, List.nil_append, Nat.reduceBEq, Nat.reduceMul, Nat.reduceLeDiff, eq_self, and_self, true_and, and_true, decide_true, decide_false, Bool.and_self, Bool.or_self, Bool.and_true, Bool.true_and, Bool.and_false, Bool.false_and, Bool.or_true, Bool.true_or, Bool.or_false, Bool.false_or, Bool.not_true, Bool.not_false, cond_true, cond_false]
  | succ d ih =>
    intro k n hk hn
    obtain ⟨n, rfl⟩ : ∃ k, n = k + 1 := ⟨n - 1, by omega⟩
    have g := ih (k + 1) n (by omega) (by omega)
    have hf := wo.fac_in k (by omega)
    have hf2 := wo.fac_in (k + 1) (by omega)
    simp only [wo.fac.sv] at g hf2
    have e : IntKind.i64.wrap (wo.fac.sv k * ((k : Int) + 1)) = wo.fac.sv k * ((k : Int) + 1) := IntWalk.i64_in _ (by omega)
    have e2 : IntKind.i64.wrap ((k : Int) + 1) = (k : Int) + 1 := IntWalk.i64_in _ (by omega)
    rw [round]
    simp only [e2, e]
    simp -implicitDefEqProofs (disch := omega) only [take_one, set_one, decide_eq_true, decide_eq_false, IntWalk.i64_in, beqT, beqF, bneT, bneF, ← Int.natCast_mul, ← Int.natCast_add, Int.toNat_natCast, Int.zero_mul, Int.zero_add, Int.add_zero, Nat.zero_add, Nat.add_zero, Nat.zero_mul, List.length_singleton, List.length_append, List.length_nil, List.length_cons, List.take_length, List.drop_zero, List.replicate_zero, List.take_nil, List.nil_append, Nat.reduceBEq, Nat.reduceMul, Nat.reduceLeDiff, eq_self, and_self, true_and, and_true, decide_true, decide_false, Bool.and_self, Bool.or_self, Bool.and_true, Bool.true_and, Bool.and_false, Bool.false_and, Bool.or_true, Bool.true_or, Bool.or_false, Bool.false_or, Bool.not_true, Bool.not_false, cond_true, cond_false]
    exact g
theorem run : ∀ args v new, R args = some (true, v, new) → ∃ fuel, runFn Try.prog (orc []) hd Dr.std none fuel (bodyOf Try.f70) 15 [2] args [] = some (v, new) := by
  intro args v new h
  unfold R at h
  split at h
  · rename_i m
    simp only [Option.some.injEq, Prod.mk.injEq, decide_eq_true_eq] at h
    obtain ⟨⟨h1, h2⟩, rfl, rfl⟩ := h
    obtain ⟨m, rfl⟩ : ∃ q : Nat, m = q := ⟨m.toNat, by omega⟩
    obtain ⟨F, hF⟩ : ∃ F : Nat, F = 100 := ⟨100, rfl⟩
    refine ⟨F, ?_⟩
    rw [start]
    exact loop m F (by omega) m 0 F (by omega) (by omega)
  · cases h
theorem ok : EntOk Try.prog ⟨70, R⟩ :=
  ent_okA mixed (A := (orc [])) (orc_ok (by simp)) Try.func70 (by kernel_rfl) (by kernel_rfl) (n := 15) (ts := [2]) (hd := hd) (dr := Dr.std) (cut := none) (by kernel_rfl) (by kernel_rfl) (by kernel_rfl) run
end factorial

-- ones
namespace ones64
def R : List AVal → Option (Bool × AVal × List Blk)
  | [.int .u64 k] => some (decide (0 ≤ k ∧ k < 64), .int .i64 (wo.cnt.sv k.toNat : Nat), [])
  | _ => none
theorem go (k : Int) :
  runFn Try.prog (orc []) hd0 Dr.std (some 0) 0 (bodyOf Try.f117) 35 [2] [.int .u64 k] []
  = (some (AVal.int IntKind.i64 (iand.sv IntKind.i64 (IntKind.i64.wrap (IntKind.u64.wrap (IntKind.u64.wrap (IntKind.u64.wrap (iand.sv IntKind.u64 (IntKind.u64.wrap (ishr.sv IntKind.u64 (IntKind.u64.wrap (iand.sv IntKind.u64 (ishr.sv IntKind.u64 (IntKind.u64.wrap (iand.sv IntKind.u64 (ishr.sv IntKind.u64 k (1 : Int)) (6148914691236517205 : Int) + iand.sv IntKind.u64 k (6148914691236517205 : Int))) (2 : Int)) (3689348814741910323 : Int) + iand.sv IntKind.u64 (IntKind.u64.wrap (iand.sv IntKind.u64 (ishr.sv IntKind.u64 k (1 : Int)) (6148914691236517205 : Int) + iand.sv IntKind.u64 k (6148914691236517205 : Int))) (3689348814741910323 : Int))) (4 : Int) + IntKind.u64.wrap (iand.sv IntKind.u64 (ishr.sv IntKind.u64 (IntKind.u64.wrap (iand.sv IntKind.u64 (ishr.sv IntKind.u64 k (1 : Int)) (6148914691236517205 : Int) + iand.sv IntKind.u64 k (6148914691236517205 : Int))) (2 : Int)) (3689348814741910323 : Int) + iand.sv IntKind.u64 (IntKind.u64.wrap (iand.sv IntKind.u64 (ishr.sv IntKind.u64 k (1 : Int)) (6148914691236517205 : Int) + iand.sv IntKind.u64 k (6148914691236517205 : Int))) (3689348814741910323 : Int)))) (1085102592571150095 : Int) + ishr.sv IntKind.u64 (iand.sv IntKind.u64 (IntKind.u64.wrap (ishr.sv IntKind.u64 (IntKind.u64.wrap (iand.sv IntKind.u64 (ishr.sv IntKind.u64 (IntKind.u64.wrap (iand.sv IntKind.u64 (ishr.sv IntKind.u64 k (1 : Int)) (6148914691236517205 : Int) + iand.sv IntKind.u64 k (6148914691236517205 : Int))) (2 : Int)) (3689348814741910323 : Int) + iand.sv IntKind.u64 (IntKind.u64.wrap (iand.sv IntKind.u64 (ishr.sv IntKind.u64 k (1 : Int)) (6148914691236517205 : Int) + iand.sv IntKind.u64 k (6148914691236517205 : Int))) (3689348814741910323 : Int))) (4 : Int) + IntKind.u64.wrap (iand.sv IntKind.u64 (ishr.sv IntKind.u64 (IntKind.u64.wrap (iand.sv IntKind.u64 (ishr.sv IntKind.u64 k (1 : Int)) (6148914691236517205 : Int) + iand.sv IntKind.u64 k (6148914691236517205 : Int))) (2 : Int)) (3689348814741910323 : Int) + iand.sv IntKind.u64 (IntKind.u64.wrap (iand.sv IntKind.u64 (ishr.sv IntKind.u64 k (1 : Int)) (6148914691236517205 : Int) + iand.sv IntKind.u64 k (6148914691236517205 : Int))) (3689348814741910323 : Int)))) (1085102592571150095 : Int)) (8 : Int)) + ishr.sv IntKind.u64 (IntKind.u64.wrap (iand.sv IntKind.u64 (IntKind.u64.wrap (ishr.sv IntKind.u64 (IntKind.u64.wrap (iand.sv IntKind.u64 (ishr.sv IntKind.u64 (IntKind.u64.wrap (iand.sv IntKind.u64 (ishr.sv IntKind.u64 k (1 : Int)) (6148914691236517205 : Int) + iand.sv IntKind.u64 k (6148914691236517205 : Int))) (2 : Int)) (3689348814741910323 : Int) + iand.sv IntKind.u64 (IntKind.u64.wrap (iand.sv IntKind.u64 (ishr.sv IntKind.u64 k (1 : Int)) (6148914691236517205 : Int) + iand.sv IntKind.u64 k (6148914691236517205 : Int))) (3689348814741910323 : Int))) (4 : Int) + IntKind.u64.wrap (iand.sv IntKind.u64 (ishr.sv IntKind.u64 (IntKind.u64.wrap (iand.sv IntKind.u64 (ishr.sv IntKind.u64 k (1 : Int)) (6148914691236517205 : Int) + iand.sv IntKind.u64 k (6148914691236517205 : Int))) (2 : Int)) (3689348814741910323 : Int) + iand.sv IntKind.u64 (IntKind.u64.wrap (iand.sv IntKind.u64 (ishr.sv IntKind.u64 k (1 : Int)) (6148914691236517205 : Int) + iand.sv IntKind.u64 k (6148914691236517205 : Int))) (3689348814741910323 : Int)))) (1085102592571150095 : Int) + ishr.sv IntKind.u64 (iand.sv IntKind.u64 (IntKind.u64.wrap (ishr.sv IntKind.u64 (IntKind.u64.wrap (iand.sv IntKind.u64 (ishr.sv IntKind.u64 (IntKind.u64.wrap (iand.sv IntKind.u64 (ishr.sv IntKind.u64 k (1 : Int)) (6148914691236517205 : Int) + iand.sv IntKind.u64 k (6148914691236517205 : Int))) (2 : Int)) (3689348814741910323 : Int) + iand.sv IntKind.u64 (IntKind.u64.wrap (iand.sv IntKind.u64 (ishr.sv IntKind.u64 k (1 : Int)) (6148914691236517205 : Int) + iand.sv IntKind.u64 k (6148914691236517205 : Int))) (3689348814741910323 : Int))) (4 : Int) + IntKind.u64.wrap (iand.sv IntKind.u64 (ishr.sv IntKind.u64 (IntKind.u64.wrap (iand.sv IntKind.u64 (ishr.sv IntKind.u64 k (1 : Int)) (6148914691236517205 : Int) + iand.sv IntKind.u64 k (6148914691236517205 : Int))) (2 : Int)) (3689348814741910323 : Int) + iand.sv IntKind.u64 (IntKind.u64.wrap (iand.sv IntKind.u64 (ishr.sv IntKind.u64 k (1 : Int)) (6148914691236517205 : Int) + iand.sv IntKind.u64 k (6148914691236517205 : Int))) (3689348814741910323 : Int)))) (1085102592571150095 : Int)) (8 : Int))) (16 : Int)) + ishr.sv IntKind.u64 (IntKind.u64.wrap (IntKind.u64.wrap (iand.sv IntKind.u64 (IntKind.u64.wrap (ishr.sv IntKind.u64 (IntKind.u64.wrap (iand.sv IntKind.u64 (ishr.sv IntKind.u64 (IntKind.u64.wrap (iand.sv IntKind.u64 (ishr.sv IntKind.u64 k (1 : Int)) (6148914691236517205 : Int) + iand.sv IntKind.u64 k (6148914691236517205 : Int))) (2 : Int)) (3689348814741910323 : Int) + iand.sv IntKind.u64 (IntKind.u64.wrap (iand.sv IntKind.u64 (ishr.sv IntKind.u64 k (1 : Int)) (6148914691236517205 : Int) + iand.sv IntKind.u64 k (6148914691236517205 : Int))) (3689348814741910323 : Int))) (4 : Int) + IntKind.u64.wrap (iand.sv IntKind.u64 (ishr.sv IntKind.u64 (IntKind.u64.wrap (iand.sv IntKind.u64 (ishr.sv IntKind.u64 k (1 : Int)) (6148914691236517205 : Int) + iand.sv IntKind.u64 k (6148914691236517205 : Int))) (2 : Int)) (3689348814741910323 : Int) + iand.sv IntKind.u64 (IntKind.u64.wrap (iand.sv IntKind.u64 (ishr.sv IntKind.u64 k (1 : Int)) (6148914691236517205 : Int) + iand.sv IntKind.u64 k (6148914691236517205 : Int))) (3689348814741910323 : Int)))) (1085102592571150095 : Int) + ishr.sv IntKind.u64 (iand.sv IntKind.u64 (IntKind.u64.wrap (ishr.sv IntKind.u64 (IntKind.u64.wrap (iand.sv IntKind.u64 (ishr.sv IntKind.u64 (IntKind.u64.wrap (iand.sv IntKind.u64 (ishr.sv IntKind.u64 k (1 : Int)) (6148914691236517205 : Int) + iand.sv IntKind.u64 k (6148914691236517205 : Int))) (2 : Int)) (3689348814741910323 : Int) + iand.sv IntKind.u64 (IntKind.u64.wrap (iand.sv IntKind.u64 (ishr.sv IntKind.u64 k (1 : Int)) (6148914691236517205 : Int) + iand.sv IntKind.u64 k (6148914691236517205 : Int))) (3689348814741910323 : Int))) (4 : Int) + IntKind.u64.wrap (iand.sv IntKind.u64 (ishr.sv IntKind.u64 (IntKind.u64.wrap (iand.sv IntKind.u64 (ishr.sv IntKind.u64 k (1 : Int)) (6148914691236517205 : Int) + iand.sv IntKind.u64 k (6148914691236517205 : Int))) (2 : Int)) (3689348814741910323 : Int) + iand.sv IntKind.u64 (IntKind.u64.wrap (iand.sv IntKind.u64 (ishr.sv IntKind.u64 k (1 : Int)) (6148914691236517205 : Int) + iand.sv IntKind.u64 k (6148914691236517205 : Int))) (3689348814741910323 : Int)))) (1085102592571150095 : Int)) (8 : Int)) + ishr.sv IntKind.u64 (IntKind.u64.wrap (iand.sv IntKind.u64 (IntKind.u64.wrap (ishr.sv IntKind.u64 (IntKind.u64.wrap (iand.sv IntKind.u64 (ishr.sv IntKind.u64 (IntKind.u64.wrap (iand.sv IntKind.u64 (ishr.sv IntKind.u64 k (1 : Int)) (6148914691236517205 : Int) + iand.sv IntKind.u64 k (6148914691236517205 : Int))) (2 : Int)) (3689348814741910323 : Int) + iand.sv IntKind.u64 (IntKind.u64.wrap (iand.sv IntKind.u64 (ishr.sv IntKind.u64 k (1 : Int)) (6148914691236517205 : Int) + iand.sv IntKind.u64 k (6148914691236517205 : Int))) (3689348814741910323 : Int))) (4 : Int) + IntKind.u64.wrap (iand.sv IntKind.u64 (ishr.sv IntKind.u64 (IntKind.u64.wrap (iand.sv IntKind.u64 (ishr.sv IntKind.u64 k (1 : Int)) (6148914691236517205 : Int) + iand.sv IntKind.u64 k (6148914691236517205 : Int))) (2 : Int)) (3689348814741910323 : Int) + iand.sv IntKind.u64 (IntKind.u64.wrap (iand.sv IntKind.u64 (ishr.sv IntKind.u64 k (1 : Int)) (6148914691236517205 : Int) + iand.sv IntKind.u64 k (6148914691236517205 : Int))) (3689348814741910323 : Int)))) (1085102592571150095 : Int) + ishr.sv IntKind.u64 (iand.sv IntKind.u64 (IntKind.u64.wrap (ishr.sv IntKind.u64 (IntKind.u64.wrap (iand.sv IntKind.u64 (ishr.sv IntKind.u64 (IntKind.u64.wrap (iand.sv IntKind.u64 (ishr.sv IntKind.u64 k (1 : Int)) (6148914691236517205 : Int) + iand.sv IntKind.u64 k (6148914691236517205 : Int))) (2 : Int)) (3689348814741910323 : Int) + iand.sv IntKind.u64 (IntKind.u64.wrap (iand.sv IntKind.u64 (ishr.sv IntKind.u64 k (1 : Int)) (6148914691236517205 : Int) + iand.sv IntKind.u64 k (6148914691236517205 : Int))) (3689348814741910323 : Int))) (4 : Int) + IntKind.u64.wrap (iand.sv IntKind.u64 (ishr.sv IntKind.u64 (IntKind.u64.wrap (iand.sv IntKind.u64 (ishr.sv IntKind.u64 k (1 : Int)) (6148914691236517205 : Int) + iand.sv IntKind.u64 k (6148914691236517205 : Int))) (2 : Int)) (3689348814741910323 : Int) + iand.sv IntKind.u64 (IntKind.u64.wrap (iand.sv IntKind.u64 (ishr.sv IntKind.u64 k (1 : Int)) (6148914691236517205 : Int) + iand.sv IntKind.u64 k (6148914691236517205 : Int))) (3689348814741910323 : Int)))) (1085102592571150095 : Int)) (8 : Int))) (16 : Int))) (32 : Int)))) (127 : Int)), [])) := by kernel_rfl
theorem run : ∀ args v new, R args = some (true, v, new) → ∃ fuel, runFn Try.prog (orc []) hd0 Dr.std (some 0) fuel (bodyOf Try.f117) 35 [2] args [] = some (v, new) := by
  intro args v new h
  unfold R at h
  split at h
  · rename_i k
    simp only [Option.some.injEq, Prod.mk.injEq, decide_eq_true_eq] at h
    obtain ⟨⟨h1, h2⟩, rfl, rfl⟩ := h
    obtain ⟨k, rfl⟩ : ∃ q : Nat, k = q := ⟨k.toNat, by omega⟩
    refine ⟨0, ?_⟩
    rw [go, Int.toNat_natCast]
    obtain rfl | rfl | rfl | rfl | rfl | rfl | rfl | rfl | rfl | rfl | rfl | rfl | rfl | rfl | rfl | rfl | rfl | rfl | rfl | rfl | rfl | rfl | rfl | rfl | rfl | rfl | rfl | rfl | rfl | rfl | rfl | rfl | rfl | rfl | rfl | rfl | rfl | rfl | rfl | rfl | rfl | rfl | rfl | rfl | rfl | rfl | rfl | rfl | rfl | rfl | rfl | rfl | rfl | rfl | rfl | rfl | rfl | rfl | rfl | rfl | rfl | rfl | rfl | rfl : k = 0 ∨ k = 1 ∨ k = 2 ∨ k = 3 ∨ k = 4 ∨ k = 5 ∨ k = 6 ∨ k = 7 ∨ k = 8 ∨ k = 9 ∨ k = 10 ∨ k = 11 ∨ k = 12 ∨ k = 13 ∨ k = 14 ∨ k = 15 ∨ k = 16 ∨ k = 17 ∨ k = 18 ∨ k = 19 ∨ k = 20 ∨ k = 21 ∨ k = 22 ∨ k = 23 ∨ k = 24 ∨ k = 25 ∨ k = 26 ∨ k = 27 ∨ k = 28 ∨ k = 29 ∨ k = 30 ∨ k = 31 ∨ k = 32 ∨ k = 33 ∨ k = 34 ∨ k = 35 ∨ k = 36 ∨ k = 37 ∨ k = 38 ∨ k = 39 ∨ k = 40 ∨ k = 41 ∨ k = 42 ∨ k = 43 ∨ k = 44 ∨ k = 45 ∨ k = 46 ∨ k = 47 ∨ k = 48 ∨ k = 49 ∨ k = 50 ∨ k = 51 ∨ k = 52 ∨ k = 53 ∨ k = 54 ∨ k = 55 ∨ k = 56 ∨ k = 57 ∨ k = 58 ∨ k = 59 ∨ k = 60 ∨ k = 61 ∨ k = 62 ∨ k = 63 := by omega
    all_goals kernel_rfl
  · cases h
theorem ok : EntOk Try.prog ⟨117, R⟩ :=
  ent_okA mixed (A := (orc [])) (orc_ok (by simp)) Try.func117 (by kernel_rfl) (by kernel_rfl) (n := 35) (ts := [2]) (hd := hd0) (dr := Dr.std) (cut := (some 0)) (by kernel_rfl) (by kernel_rfl) (by kernel_rfl) run
end ones64

namespace ones
def R : List AVal → Option (Bool × AVal × List Blk)
  | [.int .u64 k] => some (decide (0 ≤ k ∧ k < 64), .int .i64 (wo.cnt.sv k.toNat : Nat), [])
  | _ => none
theorem go (k : Int) :
  runFn Try.prog (orc [⟨117, ones64.R⟩]) hd0 Dr.std (some 0) 0 (bodyOf Try.f69) 8 [2] [.int .u64 k] []
  = (bif decide ((0 : Int) ≤ k ∧ k < (64 : Int)) && (true && true || true && true) then some (AVal.int IntKind.i64 (↑(wo.cnt.sv k.toNat) : Int), []) else none) := by kernel_rfl
theorem run : ∀ args v new, R args = some (true, v, new) → ∃ fuel, runFn Try.prog (orc [⟨117, ones64.R⟩]) hd0 Dr.std (some 0) fuel (bodyOf Try.f69) 8 [2] args [] = some (v, new) := by
  intro args v new h
  unfold R at h
  split at h
  · rename_i k
    simp only [Option.some.injEq, Prod.mk.injEq, decide_eq_true_eq] at h
    obtain ⟨⟨h1, h2⟩, rfl, rfl⟩ := h
    refine ⟨0, ?_⟩
    rw [go]
    simp -implicitDefEqProofs (disch := omega) only [take_one, set_one, decide_eq_true, decide_eq_false, IntWalk.i64_in, beqT, beqF, bneT, bneF, nat_succ, ← Int.natCast_mul, ← Int.natCast_add, Int.toNat_natCast, Int.zero_mul, Int.zero_add, Int.add_zero, Nat.zero_add, Nat.add_zero, Nat.zero_mul, List.length_singleton, List.length_append, List.length_nil, List.length_cons, List.take_length, List.drop_zero, List.replicate_zero, List.take_nil, List.nil_append, Nat.reduceBEq, Nat.reduceMul, Nat.reduceLeDiff, eq_self, and_self, true_and, and_true, decide_true, decide_false, Bool.and_self, Bool.or_self, Bool.and_true, Bool.true_and, Bool.and_false, Bool.false_and, Bool.or_true, Bool.true_or, Bool.or_false, Bool.false_or, Bool.not_true, Bool.not_false, cond_true, cond_false]
  · cases h
theorem ok : EntOk Try.prog ⟨69, R⟩ :=
  ent_okA mixed (A := (orc [⟨117, ones64.R⟩])) (orc_ok (by simp only [List.mem_cons, List.not_mem_nil, or_false, forall_eq_or_imp, forall_eq]; exact ones64.ok)) Try.func69 (by kernel_rfl) (by kernel_rfl) (n := 8) (ts := [2]) (hd := hd0) (dr := Dr.std) (cut := (some 0)) (by kernel_rfl) (by kernel_rfl) (by kernel_rfl) run
end ones

namespace wMore
def R : List AVal → Option (Bool × AVal × List Blk)
  | [.agg [.int .i64 p, .ro (.ints .i64 ws) m 1], .int .i64 k, .int .i64 i] => some (decide (m = ws.length ∧ 0 ≤ k ∧ 0 ≤ i ∧ i < p ∧ k < (ws.length : Int)) && wo.sp p ws, .int .i64 (wo.mo.sv ws k.toNat i.toNat), [])
  | _ => none
theorem go (p : Int) (ws : List Int) (m : Nat) (k i : Int) :
  runFn Try.prog (orc []) hd0 Dr.std (some 0) 0 (bodyOf Try.f64) 21 [6] [.agg [.int .i64 p, .ro (.ints .i64 ws) m 1], .int .i64 k, .int .i64 i] []
  = (bif true && true then bif decide ((0 : Int) ≤ i) then bif true && (decide ((0 : Int) ≤ ior.sv IntKind.i64 k (ishl.sv IntKind.i64 (1 : Int) i)) && decide (ior.sv IntKind.i64 k (ishl.sv IntKind.i64 (1 : Int) i) < (↑m : Int))) then bif decide ((ior.sv IntKind.i64 k (ishl.sv IntKind.i64 (1 : Int) i)).toNat < ws.length) then bif true && true then bif true && (decide ((0 : Int) ≤ k) && decide (k < (↑m : Int))) then bif decide (k.toNat < ws.length) then some (AVal.int IntKind.i64 (IntKind.i64.wrap (gz ws (ior.sv IntKind.i64 k (ishl.sv IntKind.i64 (1 : Int) i)).toNat - gz ws k.toNat)), []) else none else none else none else none else none else none else none) := by kernel_rfl
theorem run : ∀ args v new, R args = some (true, v, new) → ∃ fuel, runFn Try.prog (orc []) hd0 Dr.std (some 0) fuel (bodyOf Try.f64) 21 [6] args [] = some (v, new) := by
  intro args v new h
  unfold R at h
  split at h
  · rename_i p ws m k i
    simp only [Option.some.injEq, Prod.mk.injEq, Bool.and_eq_true, decide_eq_true_eq] at h
    obtain ⟨⟨⟨rfl, h2, h3, h4, h5⟩, hs⟩, rfl, rfl⟩ := h
    have hs2 := hs
    obtain ⟨p, rfl, hp, hw, h0, v⟩ := wo.valid hs2
    have h64 := wo.pow_le hp.2
    have h1p := wo.pow_pos p
    obtain ⟨k, rfl⟩ : ∃ q : Nat, k = q := ⟨k.toNat, by omega⟩
    obtain ⟨i, rfl⟩ : ∃ q : Nat, i = q := ⟨i.toNat, by omega⟩
    have hu := wo.up_lt (show k < 2 ^ p by omega) (show i < p by omega)
    have s1 := wo.shl_one i (by omega)
    have s2 := wo.or_shl k (by omega) i (by omega)
    have b1 := wo.gz_in v (wo.up.sv k i)
    have b2 := wo.gz_in v k
    have q1 : (2 ^ i : Nat) ≤ 64 := wo.pow_le (by omega)
    refine ⟨0, ?_⟩
    rw [go]
    simp only [s1, s2]
    simp -implicitDefEqProofs (disch := omega) only [take_one, set_one, decide_eq_true, decide_eq_false, IntWalk.i64_in, beqT, beqF, bneT, bneF, nat_succ, ← Int.natCast_mul, ← Int.natCast_add, Int.toNat_natCast, Int.zero_mul, Int.zero_add, Int.add_zero, Nat.zero_add, Nat.add_zero, Nat.zero_mul, List.length_singleton, List.length_append, List.length_nil, List.length_cons, List.take_length, List.drop_zero, List.replicate_zero, List.take_nil, List.nil_append, Nat.reduceBEq, Nat.reduceMul, Nat.reduceLeDiff, eq_self, and_self, true_and, and_true, decide_true, decide_false, Bool.and_self, Bool.or_self, Bool.and_true, Bool.true_and, Bool.and_false, Bool.false_and, Bool.or_true, Bool.true_or, Bool.or_false, Bool.false_or, Bool.not_true, Bool.not_false, cond_true, cond_false]
    rfl
  · cases h
theorem ok : EntOk Try.prog ⟨64, R⟩ :=
  ent_okA mixed (A := (orc [])) (orc_ok (by simp)) Try.func64 (by kernel_rfl) (by kernel_rfl) (n := 21) (ts := [6]) (hd := hd0) (dr := Dr.std) (cut := (some 0)) (by kernel_rfl) (by kernel_rfl) (by kernel_rfl) run
end wMore


namespace arePlayers
def R : List AVal → Option (Bool × AVal × List Blk)
  | [.int .i64 p] => some (true, .bool (decide (1 ≤ p) && decide (p ≤ 6)), [])
  | _ => none
theorem go (p : Int) :
  runFn Try.prog (orc [⟨74, within.R⟩]) hd0 Dr.std (some 0) 0 (bodyOf Try.f135) 5 [2] [.int .i64 p] []
  = (bif true && (true && true || true && true) then some (AVal.bool (decide ((1 : Int) ≤ p) && decide (p ≤ (6 : Int))), []) else none) := by kernel_rfl
theorem run : ∀ args v new, R args = some (true, v, new) → ∃ fuel, runFn Try.prog (orc [⟨74, within.R⟩]) hd0 Dr.std (some 0) fuel (bodyOf Try.f135) 5 [2] args [] = some (v, new) := by
  intro args v new h
  unfold R at h
  split at h
  · rename_i p
    simp only [Option.some.injEq, Prod.mk.injEq, true_and] at h
    obtain ⟨rfl, rfl⟩ := h
    refine ⟨0, ?_⟩
    rw [go]
    try simp -implicitDefEqProofs (disch := omega) only [take_one, set_one, decide_eq_true, decide_eq_false, IntWalk.i64_in, beqT, beqF, bneT, bneF, nat_succ, ← Int.natCast_mul, ← Int.natCast_add, Int.toNat_natCast, Int.zero_mul, Int.zero_add, Int.add_zero, Nat.zero_add, Nat.add_zero, Nat.zero_mul, List.length_singleton, List.length_append, List.length_nil, List.length_cons, List.take_length, List.drop_zero, List.replicate_zero, List.take_nil, List.nil_append, Nat.reduceBEq, Nat.reduceMul, Nat.reduceLeDiff, eq_self, and_self, true_and, and_true, decide_true, decide_false, Bool.and_self, Bool.or_self, Bool.and_true, Bool.true_and, Bool.and_false, Bool.false_and, Bool.or_true, Bool.true_or, Bool.or_false, Bool.false_or, Bool.not_true, Bool.not_false, cond_true, cond_false]
  · cases h
theorem ok : EntOk Try.prog ⟨135, R⟩ :=
  ent_okA mixed (A := (orc [⟨74, within.R⟩])) (orc_ok (by simp only [List.mem_cons, List.not_mem_nil, or_false, forall_eq_or_imp, forall_eq]; exact within.ok)) Try.func135 (by kernel_rfl) (by kernel_rfl) (n := 5) (ts := [2]) (hd := hd0) (dr := Dr.std) (cut := (some 0)) (by kernel_rfl) (by kernel_rfl) (by kernel_rfl) run
end arePlayers

namespace areSets
def R : List AVal → Option (Bool × AVal × List Blk)
  | [.ro (.ints .i64 ws) m 1, .int .i64 p, .int .i64 q] => some (decide (m = ws.length ∧ q = 10000) && wo.sp p ws, .bool true, [])
  | _ => none
theorem go (ws : List Int) (m : Nat) (p q : Int) :
  runFn Try.prog (orc [⟨135, arePlayers.R⟩, ⟨89, areMany.R⟩]) hd0 Dr.std (some 0) 0 (bodyOf Try.f113) 26 [6] [.ro (.ints .i64 ws) m 1, .int .i64 p, .int .i64 q] []
  = (bif true && (true && true || true && true) then bif decide ((1 : Int) ≤ p) && decide (p ≤ (6 : Int)) then bif decide ((0 : Int) ≤ p) then bif decide ((0 : Int) ≤ p) then bif decide (m ≤ ws.length ∧ m ≤ (4611686018427387904 : Nat)) && (true && (true && (true && (true && (true && true)))) || true && true) then bif decide (ishl.sv IntKind.i64 (1 : Int) p ≤ (↑m : Int)) && decide ((↑m : Int) ≤ ishl.sv IntKind.i64 (1 : Int) p) && (List.take m ws).all fun x => decide (IntKind.i64.wrap ((0 : Int) - q) ≤ x) && decide (x ≤ q) then bif decide ((0 : Int) < (↑m : Int)) then bif decide ((0 : Nat) < ws.length) then some (AVal.bool (gz ws (0 : Nat) == (0 : Int)), []) else none else none else some (AVal.bool false, []) else none else none else none else some (AVal.bool false, []) else none) := by kernel_rfl
theorem run : ∀ args v new, R args = some (true, v, new) → ∃ fuel, runFn Try.prog (orc [⟨135, arePlayers.R⟩, ⟨89, areMany.R⟩]) hd0 Dr.std (some 0) fuel (bodyOf Try.f113) 26 [6] args [] = some (v, new) := by
  intro args v new h
  unfold R at h
  split at h
  · rename_i ws m p q
    simp only [Option.some.injEq, Prod.mk.injEq, Bool.and_eq_true, decide_eq_true_eq] at h
    obtain ⟨⟨⟨rfl, rfl⟩, hs⟩, rfl, rfl⟩ := h
    have hs2 := hs
    obtain ⟨p, rfl, hp, hw, h0, v⟩ := wo.valid hs2
    have h64 := wo.pow_le hp.2
    have h1p := wo.pow_pos p
    have s1 := wo.shl_one p (by omega)
    have e : ((ws.length : Nat) : Int) = ((2 ^ p : Nat) : Int) := by rw [hw]
    have hall : (ws.all fun x => decide (-10000 ≤ x) && decide (x ≤ 10000)) = true := by
      rw [List.all_eq_true]; intro x hx; have := v x hx; simp only [Bool.and_eq_true, decide_eq_true_eq]; exact this
    refine ⟨0, ?_⟩
    rw [go]
    simp only [s1]
    simp -implicitDefEqProofs (disch := omega) only [Int.reduceSub, hall, h0, take_one, set_one, decide_eq_true, decide_eq_false, IntWalk.i64_in, beqT, beqF, bneT, bneF, nat_succ, ← Int.natCast_mul, ← Int.natCast_add, Int.toNat_natCast, Int.zero_mul, Int.zero_add, Int.add_zero, Nat.zero_add, Nat.add_zero, Nat.zero_mul, List.length_singleton, List.length_append, List.length_nil, List.length_cons, List.take_length, List.drop_zero, List.replicate_zero, List.take_nil, List.nil_append, Nat.reduceBEq, Nat.reduceMul, Nat.reduceLeDiff, eq_self, and_self, true_and, and_true, decide_true, decide_false, Bool.and_self, Bool.or_self, Bool.and_true, Bool.true_and, Bool.and_false, Bool.false_and, Bool.or_true, Bool.true_or, Bool.or_false, Bool.false_or, Bool.not_true, Bool.not_false, cond_true, cond_false]
  · cases h
theorem ok : EntOk Try.prog ⟨113, R⟩ :=
  ent_okA mixed (A := (orc [⟨135, arePlayers.R⟩, ⟨89, areMany.R⟩])) (orc_ok (by simp only [List.mem_cons, List.not_mem_nil, or_false, forall_eq_or_imp, forall_eq]; exact ⟨arePlayers.ok, areMany.ok⟩)) Try.func113 (by kernel_rfl) (by kernel_rfl) (n := 26) (ts := [6]) (hd := hd0) (dr := Dr.std) (cut := (some 0)) (by kernel_rfl) (by kernel_rfl) (by kernel_rfl) run
end areSets

namespace iValidWorths
def R : List AVal → Option (Bool × AVal × List Blk)
  | [.agg [.int .i64 p, .ro (.ints .i64 ws) m 1]] => some (decide (m = ws.length) && wo.sp p ws, .bool true, [])
  | _ => none
theorem go (p : Int) (ws : List Int) (m : Nat) :
  runFn Try.prog (orc [⟨113, areSets.R⟩]) hd0 Dr.std (some 0) 0 (bodyOf Try.f62) 8 [2] [.agg [.int .i64 p, .ro (.ints .i64 ws) m 1]] []
  = (bif true && true then bif true && true then bif decide (m = ws.length ∧ (10000 : Int) = (10000 : Int)) && wo.sp p ws && (true && (true && true) || true && true) then some (AVal.bool true, []) else none else none else none) := by kernel_rfl
theorem run : ∀ args v new, R args = some (true, v, new) → ∃ fuel, runFn Try.prog (orc [⟨113, areSets.R⟩]) hd0 Dr.std (some 0) fuel (bodyOf Try.f62) 8 [2] args [] = some (v, new) := by
  intro args v new h
  unfold R at h
  split at h
  · rename_i p ws m
    simp only [Option.some.injEq, Prod.mk.injEq, Bool.and_eq_true, decide_eq_true_eq] at h
    obtain ⟨⟨⟨rfl⟩, hs⟩, rfl, rfl⟩ := h
    have hs2 := hs
    obtain ⟨p, rfl, hp, hw, h0, v⟩ := wo.valid hs2
    have h64 := wo.pow_le hp.2
    have h1p := wo.pow_pos p
    refine ⟨0, ?_⟩
    rw [go]
    simp -implicitDefEqProofs (disch := omega) only [hs, take_one, set_one, decide_eq_true, decide_eq_false, IntWalk.i64_in, beqT, beqF, bneT, bneF, nat_succ, ← Int.natCast_mul, ← Int.natCast_add, Int.toNat_natCast, Int.zero_mul, Int.zero_add, Int.add_zero, Nat.zero_add, Nat.add_zero, Nat.zero_mul, List.length_singleton, List.length_append, List.length_nil, List.length_cons, List.take_length, List.drop_zero, List.replicate_zero, List.take_nil, List.nil_append, Nat.reduceBEq, Nat.reduceMul, Nat.reduceLeDiff, eq_self, and_self, true_and, and_true, decide_true, decide_false, Bool.and_self, Bool.or_self, Bool.and_true, Bool.true_and, Bool.and_false, Bool.false_and, Bool.or_true, Bool.true_or, Bool.or_false, Bool.false_or, Bool.not_true, Bool.not_false, cond_true, cond_false]
  · cases h
theorem ok : EntOk Try.prog ⟨62, R⟩ :=
  ent_okA mixed (A := (orc [⟨113, areSets.R⟩])) (orc_ok (by simp only [List.mem_cons, List.not_mem_nil, or_false, forall_eq_or_imp, forall_eq]; exact areSets.ok)) Try.func62 (by kernel_rfl) (by kernel_rfl) (n := 8) (ts := [2]) (hd := hd0) (dr := Dr.std) (cut := (some 0)) (by kernel_rfl) (by kernel_rfl) (by kernel_rfl) run
end iValidWorths

namespace l03In
def R : List AVal → Option (Bool × AVal × List Blk)
  | [.int .i64 k, .int .i64 i] => some (decide (0 ≤ k ∧ k < 64 ∧ 0 ≤ i ∧ i < 6), .bool (!wo.off.sp k.toNat i.toNat), [])
  | _ => none
theorem go (k i : Int) :
  runFn Try.prog (orc []) hd0 Dr.std (some 0) 0 (bodyOf Try.f60) 11 [4] [.int .i64 k, .int .i64 i] []
  = (bif decide ((0 : Int) ≤ IntKind.u64.wrap i) then some (AVal.bool (iand.sv IntKind.i64 (ishr.sv IntKind.i64 k (IntKind.u64.wrap i)) (1 : Int) == (1 : Int)), []) else none) := by kernel_rfl
theorem run : ∀ args v new, R args = some (true, v, new) → ∃ fuel, runFn Try.prog (orc []) hd0 Dr.std (some 0) fuel (bodyOf Try.f60) 11 [4] args [] = some (v, new) := by
  intro args v new h
  unfold R at h
  split at h
  · rename_i k i
    simp only [Option.some.injEq, Prod.mk.injEq, decide_eq_true_eq] at h
    obtain ⟨⟨h1, h2, h3, h4⟩, rfl, rfl⟩ := h
    obtain ⟨k, rfl⟩ : ∃ q : Nat, k = q := ⟨k.toNat, by omega⟩
    obtain ⟨i, rfl⟩ : ∃ q : Nat, i = q := ⟨i.toNat, by omega⟩
    have s1 := wo.shr_and k (by omega) i (by omega)
    have e1 : IntKind.u64.wrap ((i : Nat) : Int) = ((i : Nat) : Int) := wo.u64_nat i (by omega)
    refine ⟨0, ?_⟩
    rw [go]
    simp only [e1, s1]
    simp -implicitDefEqProofs (disch := omega) only [take_one, set_one, decide_eq_true, decide_eq_false, IntWalk.i64_in, beqT, beqF, bneT, bneF, nat_succ, ← Int.natCast_mul, ← Int.natCast_add, Int.toNat_natCast, Int.zero_mul, Int.zero_add, Int.add_zero, Nat.zero_add, Nat.add_zero, Nat.zero_mul, List.length_singleton, List.length_append, List.length_nil, List.length_cons, List.take_length, List.drop_zero, List.replicate_zero, List.take_nil, List.nil_append, Nat.reduceBEq, Nat.reduceMul, Nat.reduceLeDiff, eq_self, and_self, true_and, and_true, decide_true, decide_false, Bool.and_self, Bool.or_self, Bool.and_true, Bool.true_and, Bool.and_false, Bool.false_and, Bool.or_true, Bool.true_or, Bool.or_false, Bool.false_or, Bool.not_true, Bool.not_false, cond_true, cond_false]
    cases wo.off.sp k i <;> rfl
  · cases h
theorem ok : EntOk Try.prog ⟨60, R⟩ :=
  ent_okA mixed (A := (orc [])) (orc_ok (by simp)) Try.func60 (by kernel_rfl) (by kernel_rfl) (n := 11) (ts := [4]) (hd := hd0) (dr := Dr.std) (cut := (some 0)) (by kernel_rfl) (by kernel_rfl) (by kernel_rfl) run
end l03In

end Go.Proofs.Ytekadpddilfolaa.Ab
