/-
  Functions: sums, least ones, products; sorting by shares.
-/
import Derived.Test.YtkoongajnnaeoaaFnPB
import Derived.Test.YtkoongajnnaeoaaFnPA
import Derived.Test.YtkoongajnnaeoaaFnXA
import Derived.Test.YtkoongajnnaeoaaFnAU
namespace Go.Proofs.Ytkoongajnnaeoaa.Ab
open Go
set_option linter.unusedVariables false
set_option linter.unusedSimpArgs false
set_option maxRecDepth 100000

namespace pf
/-- The first ones, added, the least of them, multiplied. -/
def sum (xs : List Int) : Nat → Int
  | 0 => 0
  | k + 1 => sum xs k + gz xs k
def low (xs : List Int) : Nat → Int
  | 0 => 1000000
  | k + 1 => if gz xs k < low xs k then gz xs k else low xs k
def pro (xs : List Int) : Nat → Int
  | 0 => 1
  | k + 1 => pro xs k * gz xs k
/-- Not more than a bound. -/
def cap (xs : List Int) : Nat → Int
  | 0 => 1
  | k + 1 => if 1000000000001 < cap xs k * gz xs k then 1000000000001 else cap xs k * gz xs k
def small.sp (xs : List Int) : Bool := xs.all fun x => decide (0 ≤ x) && decide (x ≤ 8000)
theorem small {xs : List Int} (h : small.sp xs = true) : ∀ k, 0 ≤ gz xs k ∧ gz xs k ≤ 8000 := by
  intro k
  by_cases hk : k < xs.length
  · have := List.all_eq_true.1 h _ (gz_mem hk)
    simpa [Bool.and_eq_true, decide_eq_true_eq] using this
  · rw [gz_out (by omega)]; omega
theorem sum_in {xs : List Int} (h : ∀ k, 0 ≤ gz xs k ∧ gz xs k ≤ 8000) : ∀ n, 0 ≤ sum xs n ∧ sum xs n ≤ 8000 * n := by
  intro n
  induction n with
  | zero => simp [sum]
  | succ n ih => have := h n; simp only [sum]; omega
theorem cap_in {xs : List Int} (h : ∀ k, 0 ≤ gz xs k ∧ gz xs k ≤ 8000) : ∀ n, 0 ≤ cap xs n ∧ cap xs n ≤ 1000000000001 := by
  intro n
  induction n with
  | zero => simp [cap]
  | succ n ih =>
    have := Int.mul_nonneg ih.1 (h n).1
    simp only [cap]
    split <;> omega
theorem cap_mul {xs : List Int} (h : ∀ k, 0 ≤ gz xs k ∧ gz xs k ≤ 8000) (n : Nat) : 0 ≤ cap xs n * gz xs n ∧ cap xs n * gz xs n ≤ 8000000000008000 := by
  have a := cap_in h n
  have b := h n
  have c := Int.mul_nonneg a.1 b.1
  have d := Int.mul_le_mul a.2 b.2 b.1 (by omega)
  omega
theorem pro_in {xs : List Int} (h : ∀ k, 0 ≤ gz xs k ∧ gz xs k ≤ 8000) : ∀ n, n ≤ 4 → 0 ≤ pro xs n ∧ pro xs n ≤ 8000 ^ n := by
  intro n
  induction n with
  | zero => intro _; simp [pro]
  | succ n ih =>
    intro hn
    have a := ih (by omega)
    have b := h n
    have c := Int.mul_nonneg a.1 b.1
    have d := Int.mul_le_mul a.2 b.2 b.1 (show (0 : Int) ≤ 8000 ^ n from Int.pow_nonneg (by omega))
    simp only [pro]
    rw [Int.pow_succ]
    exact ⟨c, d⟩
theorem pow_small : ∀ {n : Nat}, n ≤ 4 → (8000 : Int) ^ n ≤ 4096000000000000
  | 0, _ => by decide
  | 1, _ => by decide
  | 2, _ => by decide
  | 3, _ => by decide
  | 4, _ => by decide
  | n + 5, h => by omega
theorem gz_take {xs : List Int} {m k : Nat} (h : k < m) : gz (xs.take m) k = gz xs k := by
  by_cases hk : k < xs.length
  · rw [gz_eq (by simp; omega), gz_eq hk]; simp
  · rw [gz_out (by simp; omega), gz_out (by omega)]
end pf
namespace pf
def prod.sv (xs : List Int) (m : Nat) : Int := bif (xs.take m).any (fun y => 0 == y) then 0 else cap xs m
end pf

namespace r8SumP
def R : List AVal → Option (Bool × AVal × List Blk)
  | [.ro (.ints .i64 xs) m 1] => some (decide (m ≤ xs.length ∧ m ≤ 1000) && pf.small.sp xs, .int .i64 (pf.sum xs m), [])
  | _ => none
def hd : Nat → Head := fun _ => ⟨[0, 3, 4], none⟩
noncomputable def L (f n : Nat) (s : State) := loopAt Try.prog (orc []) hd Dr.std 0 f (bodyOf Try.f17) 0 [true, true, false, true] (retK Try.prog [2] 0 none) n s
theorem start (xs : List Int) (m : Nat) (f : Nat) :
  runFn Try.prog (orc []) hd Dr.std none f (bodyOf Try.f17) 18 [2] [.ro (.ints .i64 xs) m 1] []
  = (L f f (mkS (18 : Nat) [((0 : Nat), AVal.ro (Cont.ints IntKind.i64 xs) m (1 : Nat)), ((3 : Nat), AVal.int IntKind.i64 (0 : Int)), ((4 : Nat), AVal.int IntKind.i64 (0 : Int))] [])) := by kernel_rfl
theorem round (xs : List Int) (m : Nat) (a : Int) (i f n : Nat) :
  L f (n + 1) (mkS 18 [(0, .ro (.ints .i64 xs) m 1), (3, .int .i64 a), (4, .int .i64 (i : Int))] [])
  = (bif decide ((↑i : Int) < (↑m : Int)) then bif true && (decide ((0 : Int) ≤ (↑i : Int)) && decide ((↑i : Int) < (↑m : Int))) then bif decide ((↑i : Int).toNat < xs.length) then L f n (mkS (18 : Nat) [((0 : Nat), AVal.ro (Cont.ints IntKind.i64 xs) m (1 : Nat)), ((3 : Nat), AVal.int IntKind.i64 (IntKind.i64.wrap (a + gz xs (↑i : Int).toNat))), ((4 : Nat), AVal.int IntKind.i64 (IntKind.i64.wrap ((↑i : Int) + (1 : Int))))] []) else none else none else some (AVal.int IntKind.i64 a, [])) := by kernel_rfl
theorem loop (xs : List Int) (m f : Nat) (hx : m ≤ xs.length) (hb : m ≤ 1000) (h : ∀ k, 0 ≤ gz xs k ∧ gz xs k ≤ 8000) : ∀ (d i n : Nat), i + d = m → d < n →
    L f n (mkS 18 [(0, .ro (.ints .i64 xs) m 1), (3, .int .i64 (pf.sum xs i)), (4, .int .i64 (i : Int))] []) = some (.int .i64 (pf.sum xs m), []) := by
  intro d
  induction d with
  | zero =>
    intro i n hi hn
    obtain ⟨n, rfl⟩ : ∃ k, n = k + 1 := ⟨n - 1, by omega⟩
    obtain rfl : i = m := by omega
    rw [round]
    simp -implicitDefEqProofs (disch := omega) only [take_one, set_one, decide_eq_true, decide_eq_false, IntWalk.i64_in, beqT, beqF, bneT, bneF, nat_succ, ← Int.natCast_mul, ← Int.natCast_add, Int.toNat_natCast, Int.zero_mul, Int.zero_add, Int.add_zero, Nat.zero_add, Nat.add_zero, Nat.zero_mul, List.length_singleton, List.length_append, List.length_nil, List.length_cons, List.take_length, List.drop_zero, List.replicate_zero, List.take_nil, List.nil_append, Nat.reduceBEq, Nat.reduceMul, Nat.reduceLeDiff, eq_self, and_self, true_and, and_true, decide_true, decide_false, Bool.and_self, Bool.or_self, Bool.and_true, Bool.true_and, Bool.and_false, Bool.false_and, Bool.or_true, Bool.true_or, Bool.or_false, Bool.false_or, Bool.not_true, Bool.not_false, cond_true, cond_false]
  | succ d ih =>
    intro i n hi hn
    obtain ⟨n, rfl⟩ : ∃ k, n = k + 1 := ⟨n - 1, by omega⟩
    have g := ih (i + 1) n (by omega) (by omega)
    have b1 := pf.sum_in h i
    have b2 := h i
    rw [pf.sum] at g
    rw [round]
    simp -implicitDefEqProofs (disch := omega) only [take_one, set_one, decide_eq_true, decide_eq_false, IntWalk.i64_in, beqT, beqF, bneT, bneF, nat_succ, ← Int.natCast_mul, ← Int.natCast_add, Int.toNat_natCast, Int.zero_mul, Int.zero_add, Int.add_zero, Nat.zero_add, Nat.add_zero, Nat.zero_mul, List.length_singleton, List.length_append, List.length_nil, List.length_cons, List.take_length, List.drop_zero, List.replicate_zero, List.take_nil, List.nil_append, Nat.reduceBEq, Nat.reduceMul, Nat.reduceLeDiff, eq_self, and_self, true_and, and_true, decide_true, decide_false, Bool.and_self, Bool.or_self, Bool.and_true, Bool.true_and, Bool.and_false, Bool.false_and, Bool.or_true, Bool.true_or, Bool.or_false, Bool.false_or, Bool.not_true, Bool.not_false, cond_true, cond_false]
    exact g
theorem run : ∀ args v new, R args = some (true, v, new) → ∃ fuel, runFn Try.prog (orc []) hd Dr.std none fuel (bodyOf Try.f17) 18 [2] args [] = some (v, new) := by
  intro args v new h
  unfold R at h
  split at h
  · rename_i xs m
    simp only [Option.some.injEq, Prod.mk.injEq, Bool.and_eq_true, decide_eq_true_eq] at h
    obtain ⟨⟨⟨h1, h2⟩, hs⟩, rfl, rfl⟩ := h
    refine ⟨m + 1, ?_⟩
    rw [start]
    exact loop xs m (m + 1) h1 h2 (pf.small hs) m 0 (m + 1) (by omega) (by omega)
  · cases h
theorem ok : EntOk Try.prog ⟨17, R⟩ :=
  ent_okA mixed (A := (orc [])) (orc_ok (by simp)) Try.func17 (by kernel_rfl) (by kernel_rfl) (n := 18) (ts := [2]) (hd := hd) (dr := Dr.std) (cut := none) (by kernel_rfl) (by kernel_rfl) (by kernel_rfl) run
end r8SumP

namespace r8LeastP
def R : List AVal → Option (Bool × AVal × List Blk)
  | [.ro (.ints .i64 xs) m 1] => some (decide (m ≤ xs.length ∧ m ≤ 1000), .int .i64 (pf.low xs m), [])
  | _ => none
def hd : Nat → Head := fun _ => ⟨[0, 3, 4], none⟩
noncomputable def L (f n : Nat) (s : State) := loopAt Try.prog (orc []) hd Dr.std 0 f (bodyOf Try.f18) 0 [true, true, false, true] (retK Try.prog [2] 0 none) n s
theorem start (xs : List Int) (m : Nat) (f : Nat) :
  runFn Try.prog (orc []) hd Dr.std none f (bodyOf Try.f18) 18 [2] [.ro (.ints .i64 xs) m 1] []
  = (L f f (mkS (18 : Nat) [((0 : Nat), AVal.ro (Cont.ints IntKind.i64 xs) m (1 : Nat)), ((3 : Nat), AVal.int IntKind.i64 (1000000 : Int)), ((4 : Nat), AVal.int IntKind.i64 (0 : Int))] [])) := by kernel_rfl
theorem round (xs : List Int) (m : Nat) (a : Int) (i f n : Nat) :
  L f (n + 1) (mkS 18 [(0, .ro (.ints .i64 xs) m 1), (3, .int .i64 a), (4, .int .i64 (i : Int))] [])
  = (bif decide ((↑i : Int) < (↑m : Int)) then bif true && (decide ((0 : Int) ≤ (↑i : Int)) && decide ((↑i : Int) < (↑m : Int))) then bif decide ((↑i : Int).toNat < xs.length) then L f n (mkS (18 : Nat) [((0 : Nat), AVal.ro (Cont.ints IntKind.i64 xs) m (1 : Nat)), ((3 : Nat), AVal.int IntKind.i64 (if gz xs (↑i : Int).toNat < a then gz xs (↑i : Int).toNat else a)), ((4 : Nat), AVal.int IntKind.i64 (IntKind.i64.wrap ((↑i : Int) + (1 : Int))))] []) else none else none else some (AVal.int IntKind.i64 a, [])) := by kernel_rfl
theorem loop (xs : List Int) (m f : Nat) (hx : m ≤ xs.length) (hb : m ≤ 1000) : ∀ (d i n : Nat), i + d = m → d < n →
    L f n (mkS 18 [(0, .ro (.ints .i64 xs) m 1), (3, .int .i64 (pf.low xs i)), (4, .int .i64 (i : Int))] []) = some (.int .i64 (pf.low xs m), []) := by
  intro d
  induction d with
  | zero =>
    intro i n hi hn
    obtain ⟨n, rfl⟩ : ∃ k, n = k + 1 := ⟨n - 1, by omega⟩
    obtain rfl : i = m := by omega
    rw [round]
    simp -implicitDefEqProofs (disch := omega) only [take_one, set_one, decide_eq_true, decide_eq_false, IntWalk.i64_in, beqT, beqF, bneT, bneF, nat_succ, ← Int.natCast_mul, ← Int.natCast_add, Int.toNat_natCast, Int.zero_mul, Int.zero_add, Int.add_zero, Nat.zero_add, Nat.add_zero, Nat.zero_mul, List.length_singleton, List.length_append, List.length_nil, List.length_cons, List.take_length, List.drop_zero, List.replicate_zero, List.take_nil, List.nil_append, Nat.reduceBEq, Nat.reduceMul, Nat.reduceLeDiff, eq_self, and_self, true_and, and_true, decide_true, decide_false, Bool.and_self, Bool.or_self, Bool.and_true, Bool.true_and, Bool.and_false, Bool.false_and, Bool.or_true, Bool.true_or, Bool.or_false, Bool.false_or, Bool.not_true, Bool.not_false, cond_true, cond_false]
  | succ d ih =>
    intro i n hi hn
    obtain ⟨n, rfl⟩ : ∃ k, n = k + 1 := ⟨n - 1, by omega⟩
    have g := ih (i + 1) n (by omega) (by omega)
    rw [pf.low] at g
    rw [round]
    simp -implicitDefEqProofs (disch := omega) only [take_one, set_one, decide_eq_true, decide_eq_false, IntWalk.i64_in, beqT, beqF, bneT, bneF, nat_succ, ← Int.natCast_mul, ← Int.natCast_add, Int.toNat_natCast, Int.zero_mul, Int.zero_add, Int.add_zero, Nat.zero_add, Nat.add_zero, Nat.zero_mul, List.length_singleton, List.length_append, List.length_nil, List.length_cons, List.take_length, List.drop_zero, List.replicate_zero, List.take_nil, List.nil_append, Nat.reduceBEq, Nat.reduceMul, Nat.reduceLeDiff, eq_self, and_self, true_and, and_true, decide_true, decide_false, Bool.and_self, Bool.or_self, Bool.and_true, Bool.true_and, Bool.and_false, Bool.false_and, Bool.or_true, Bool.true_or, Bool.or_false, Bool.false_or, Bool.not_true, Bool.not_false, cond_true, cond_false]
    exact g
theorem run : ∀ args v new, R args = some (true, v, new) → ∃ fuel, runFn Try.prog (orc []) hd Dr.std none fuel (bodyOf Try.f18) 18 [2] args [] = some (v, new) := by
  intro args v new h
  unfold R at h
  split at h
  · rename_i xs m
    simp only [Option.some.injEq, Prod.mk.injEq, Bool.and_eq_true, decide_eq_true_eq] at h
    obtain ⟨⟨h1, h2⟩, rfl, rfl⟩ := h
    refine ⟨m + 1, ?_⟩
    rw [start]
    exact loop xs m (m + 1) h1 h2 m 0 (m + 1) (by omega) (by omega)
  · cases h
theorem ok : EntOk Try.prog ⟨18, R⟩ :=
  ent_okA mixed (A := (orc [])) (orc_ok (by simp)) Try.func18 (by kernel_rfl) (by kernel_rfl) (n := 18) (ts := [2]) (hd := hd) (dr := Dr.std) (cut := none) (by kernel_rfl) (by kernel_rfl) (by kernel_rfl) run
end r8LeastP

namespace r8ProductP
def R : List AVal → Option (Bool × AVal × List Blk)
  | [.ro (.ints .i64 xs) m 1] => some (decide (m ≤ xs.length ∧ m ≤ 4) && pf.small.sp xs, .int .i64 (pf.pro xs m), [])
  | _ => none
def hd : Nat → Head := fun _ => ⟨[0, 3, 4], none⟩
noncomputable def L (f n : Nat) (s : State) := loopAt Try.prog (orc []) hd Dr.std 0 f (bodyOf Try.f19) 0 [true, true, false, true] (retK Try.prog [2] 0 none) n s
theorem start (xs : List Int) (m : Nat) (f : Nat) :
  runFn Try.prog (orc []) hd Dr.std none f (bodyOf Try.f19) 18 [2] [.ro (.ints .i64 xs) m 1] []
  = (L f f (mkS (18 : Nat) [((0 : Nat), AVal.ro (Cont.ints IntKind.i64 xs) m (1 : Nat)), ((3 : Nat), AVal.int IntKind.i64 (1 : Int)), ((4 : Nat), AVal.int IntKind.i64 (0 : Int))] [])) := by kernel_rfl
theorem round (xs : List Int) (m : Nat) (a : Int) (i f n : Nat) :
  L f (n + 1) (mkS 18 [(0, .ro (.ints .i64 xs) m 1), (3, .int .i64 a), (4, .int .i64 (i : Int))] [])
  = (bif decide ((↑i : Int) < (↑m : Int)) then bif true && (decide ((0 : Int) ≤ (↑i : Int)) && decide ((↑i : Int) < (↑m : Int))) then bif decide ((↑i : Int).toNat < xs.length) then L f n (mkS (18 : Nat) [((0 : Nat), AVal.ro (Cont.ints IntKind.i64 xs) m (1 : Nat)), ((3 : Nat), AVal.int IntKind.i64 (IntKind.i64.wrap (a * gz xs (↑i : Int).toNat))), ((4 : Nat), AVal.int IntKind.i64 (IntKind.i64.wrap ((↑i : Int) + (1 : Int))))] []) else none else none else some (AVal.int IntKind.i64 a, [])) := by kernel_rfl
theorem loop (xs : List Int) (m f : Nat) (hx : m ≤ xs.length) (hb : m ≤ 4) (h : ∀ k, 0 ≤ gz xs k ∧ gz xs k ≤ 8000) : ∀ (d i n : Nat), i + d = m → d < n →
    L f n (mkS 18 [(0, .ro (.ints .i64 xs) m 1), (3, .int .i64 (pf.pro xs i)), (4, .int .i64 (i : Int))] []) = some (.int .i64 (pf.pro xs m), []) := by
  intro d
  induction d with
  | zero =>
    intro i n hi hn
    obtain ⟨n, rfl⟩ : ∃ k, n = k + 1 := ⟨n - 1, by omega⟩
    obtain rfl : i = m := by omega
    rw [round]
    simp -implicitDefEqProofs (disch := omega) only [take_one, set_one, decide_eq_true, decide_eq_false, IntWalk.i64_in, beqT, beqF, bneT, bneF, nat_succ, ← Int.natCast_mul, ← Int.natCast_add, Int.toNat_natCast, Int.zero_mul, Int.zero_add, Int.add_zero, Nat.zero_add, Nat.add_zero, Nat.zero_mul, List.length_singleton, List.length_append, List.length_nil, List.length_cons, List.take_length, List.drop_zero, List.replicate_zero, List.take_nil, List.nil_append, Nat.reduceBEq, Nat.reduceMul, Nat.reduceLeDiff, eq_self, and_self, true_and, and_true, decide_true, decide_false, Bool.and_self, Bool.or_self, Bool.and_true, Bool.true_and, Bool.and_false, Bool.false_and, Bool.or_true, Bool.true_or, Bool.or_false, Bool.false_or, Bool.not_true, Bool.not_false, cond_true, cond_false]
  | succ d ih =>
    intro i n hi hn
    obtain ⟨n, rfl⟩ : ∃ k, n = k + 1 := ⟨n - 1, by omega⟩
    have g := ih (i + 1) n (by omega) (by omega)
    have b1 := pf.pro_in h (i + 1) (by omega)
    have b2 := pf.pow_small (n := i + 1) (by omega)
    rw [pf.pro] at g b1
    rw [round]
    simp -implicitDefEqProofs (disch := omega) only [take_one, set_one, decide_eq_true, decide_eq_false, IntWalk.i64_in, beqT, beqF, bneT, bneF, nat_succ, ← Int.natCast_mul, ← Int.natCast_add, Int.toNat_natCast, Int.zero_mul, Int.zero_add, Int.add_zero, Nat.zero_add, Nat.add_zero, Nat.zero_mul, List.length_singleton, List.length_append, List.length_nil, List.length_cons, List.take_length, List.drop_zero, List.replicate_zero, List.take_nil, List.nil_append, Nat.reduceBEq, Nat.reduceMul, Nat.reduceLeDiff, eq_self, and_self, true_and, and_true, decide_true, decide_false, Bool.and_self, Bool.or_self, Bool.and_true, Bool.true_and, Bool.and_false, Bool.false_and, Bool.or_true, Bool.true_or, Bool.or_false, Bool.false_or, Bool.not_true, Bool.not_false, cond_true, cond_false]
    exact g
theorem run : ∀ args v new, R args = some (true, v, new) → ∃ fuel, runFn Try.prog (orc []) hd Dr.std none fuel (bodyOf Try.f19) 18 [2] args [] = some (v, new) := by
  intro args v new h
  unfold R at h
  split at h
  · rename_i xs m
    simp only [Option.some.injEq, Prod.mk.injEq, Bool.and_eq_true, decide_eq_true_eq] at h
    obtain ⟨⟨⟨h1, h2⟩, hs⟩, rfl, rfl⟩ := h
    refine ⟨m + 1, ?_⟩
    rw [start]
    exact loop xs m (m + 1) h1 h2 (pf.small hs) m 0 (m + 1) (by omega) (by omega)
  · cases h
theorem ok : EntOk Try.prog ⟨19, R⟩ :=
  ent_okA mixed (A := (orc [])) (orc_ok (by simp)) Try.func19 (by kernel_rfl) (by kernel_rfl) (n := 18) (ts := [2]) (hd := hd) (dr := Dr.std) (cut := none) (by kernel_rfl) (by kernel_rfl) (by kernel_rfl) run
end r8ProductP

namespace areWorkersP
def R : List AVal → Option (Bool × AVal × List Blk)
  | [.int .i64 n] => some (true, .bool (decide (1 ≤ n) && decide (n ≤ 8)), [])
  | _ => none
theorem go (n : Int) :
  runFn Try.prog (orc [⟨76, within.R⟩]) hd0 Dr.std none 0 (bodyOf Try.f74) 5 [2] [.int .i64 n] []
  = (bif true && (true && true || true && true) then some (AVal.bool (decide ((1 : Int) ≤ n) && decide (n ≤ (8 : Int))), []) else none) := by kernel_rfl
theorem run : ∀ args v new, R args = some (true, v, new) → ∃ fuel, runFn Try.prog (orc [⟨76, within.R⟩]) hd0 Dr.std none fuel (bodyOf Try.f74) 5 [2] args [] = some (v, new) := by
  intro args v new h
  unfold R at h
  split at h
  · rename_i n
    simp only [Option.some.injEq, Prod.mk.injEq] at h
    obtain ⟨_, rfl, rfl⟩ := h
    refine ⟨0, ?_⟩
    rw [go]
    try rfl
  · cases h
theorem ok : EntOk Try.prog ⟨74, R⟩ :=
  ent_okA mixed (A := (orc [⟨76, within.R⟩])) (orc_ok (by simp only [List.mem_cons, List.not_mem_nil, or_false, forall_eq_or_imp, forall_eq]; exact within.ok)) Try.func74 (by kernel_rfl) (by kernel_rfl) (n := 5) (ts := [2]) (hd := hd0) (dr := Dr.std) (cut := none) (by kernel_rfl) (by kernel_rfl) (by kernel_rfl) run
end areWorkersP

namespace slContainsP
def R : List AVal → Option (Bool × AVal × List Blk)
  | [.ro (.ints .i64 xs) m 1, .int .i64 v] => some (decide (m ≤ xs.length ∧ m ≤ 4611686018427387904), .bool ((xs.take m).any (fun y => v == y)), [])
  | _ => none
theorem go (xs : List Int) (m : Nat) (v : Int) :
  runFn Try.prog (orc [⟨109, slIndex.R⟩]) hd0 Dr.std none 0 (bodyOf Try.f116) 9 [4] [.ro (.ints .i64 xs) m 1, .int .i64 v] []
  = (bif decide (m ≤ xs.length ∧ m ≤ (4611686018427387904 : Nat)) && (true && (true && true) || true && true) then some (AVal.bool (decide ((0 : Int) ≤ fidx.sq (fun y => v == y) (List.take m xs) (0 : Nat))), []) else none) := by kernel_rfl
theorem run : ∀ args v new, R args = some (true, v, new) → ∃ fuel, runFn Try.prog (orc [⟨109, slIndex.R⟩]) hd0 Dr.std none fuel (bodyOf Try.f116) 9 [4] args [] = some (v, new) := by
  intro args v new h
  unfold R at h
  split at h
  · rename_i xs m v
    simp only [Option.some.injEq, Prod.mk.injEq, decide_eq_true_eq] at h
    obtain ⟨⟨h1, h2⟩, rfl, rfl⟩ := h
    refine ⟨0, ?_⟩
    rw [go]
    simp only [h1, h2, and_self, decide_true, Bool.and_self, Bool.or_self, Bool.and_true, Bool.or_true, cond_true, fidx_ge]
  · cases h
theorem ok : EntOk Try.prog ⟨116, R⟩ :=
  ent_okA mixed (A := (orc [⟨109, slIndex.R⟩])) (orc_ok (by simp only [List.mem_cons, List.not_mem_nil, or_false, forall_eq_or_imp, forall_eq]; exact slIndex.ok)) Try.func116 (by kernel_rfl) (by kernel_rfl) (n := 9) (ts := [4]) (hd := hd0) (dr := Dr.std) (cut := none) (by kernel_rfl) (by kernel_rfl) (by kernel_rfl) run
end slContainsP

namespace leastClo
def R : List AVal → Option (Bool × AVal × List Blk)
  | [.ro (.ints .i64 xs) m 1] => some (decide (0 < m ∧ m ≤ xs.length ∧ m ≤ 1000), .int .i64 (ln.low.sv (xs.take m)), [])
  | _ => none
theorem go (xs : List Int) (m : Nat) :
  runFn Try.prog (orc [⟨71, slMin.R⟩]) hd0 Dr.std none 0 (bodyOf Try.f70) 5 [2] [.ro (.ints .i64 xs) m 1] []
  = (bif decide ((0 : Nat) < m ∧ m ≤ xs.length ∧ m ≤ (4611686018427387904 : Nat)) && (true && true || true && true) then some (AVal.int IntKind.i64 (ln.low.sv (List.take m xs)), []) else none) := by kernel_rfl
theorem run : ∀ args v new, R args = some (true, v, new) → ∃ fuel, runFn Try.prog (orc [⟨71, slMin.R⟩]) hd0 Dr.std none fuel (bodyOf Try.f70) 5 [2] args [] = some (v, new) := by
  intro args v new h
  unfold R at h
  split at h
  · rename_i xs m
    simp only [Option.some.injEq, Prod.mk.injEq, decide_eq_true_eq] at h
    obtain ⟨⟨h1, h2, h3⟩, rfl, rfl⟩ := h
    refine ⟨0, ?_⟩
    rw [go]
    simp -implicitDefEqProofs (disch := omega) only [take_one, set_one, decide_eq_true, decide_eq_false, IntWalk.i64_in, beqT, beqF, bneT, bneF, nat_succ, ← Int.natCast_mul, ← Int.natCast_add, Int.toNat_natCast, Int.zero_mul, Int.zero_add, Int.add_zero, Nat.zero_add, Nat.add_zero, Nat.zero_mul, List.length_singleton, List.length_append, List.length_nil, List.length_cons, List.take_length, List.drop_zero, List.replicate_zero, List.take_nil, List.nil_append, Nat.reduceBEq, Nat.reduceMul, Nat.reduceLeDiff, eq_self, and_self, true_and, and_true, decide_true, decide_false, Bool.and_self, Bool.or_self, Bool.and_true, Bool.true_and, Bool.and_false, Bool.false_and, Bool.or_true, Bool.true_or, Bool.or_false, Bool.false_or, Bool.not_true, Bool.not_false, cond_true, cond_false]
  · cases h
theorem ok : EntOk Try.prog ⟨70, R⟩ :=
  ent_okA mixed (A := (orc [⟨71, slMin.R⟩])) (orc_ok (by simp only [List.mem_cons, List.not_mem_nil, or_false, forall_eq_or_imp, forall_eq]; exact slMin.ok)) Try.func70 (by kernel_rfl) (by kernel_rfl) (n := 5) (ts := [2]) (hd := hd0) (dr := Dr.std) (cut := none) (by kernel_rfl) (by kernel_rfl) (by kernel_rfl) run
end leastClo

namespace productOf
def R : List AVal → Option (Bool × AVal × List Blk)
  | [.ro (.ints .i64 xs) m 1] => some (decide (m ≤ xs.length ∧ m ≤ 1000) && pf.small.sp xs, .int .i64 (pf.prod.sv xs m), [])
  | _ => none
def hd : Nat → Head := fun _ => ⟨[3, 8, 9, 10], none⟩
noncomputable def L (f n : Nat) (s : State) := loopAt Try.prog (orc [⟨116, slContainsP.R⟩]) hd Dr.std 0 f (bodyOf Try.f72) 0 [true, true, true, false, true] (retK Try.prog [2] 0 none) n s
theorem start (xs : List Int) (m : Nat) (f : Nat) :
  runFn Try.prog (orc [⟨116, slContainsP.R⟩]) hd Dr.std none f (bodyOf Try.f72) 20 [2] [.ro (.ints .i64 xs) m 1] []
  = (bif decide (m ≤ xs.length ∧ m ≤ (4611686018427387904 : Nat)) && (true && true || true && true) then bif (List.take m xs).any fun y => (0 : Int) == y then some (AVal.int IntKind.i64 (0 : Int), []) else L f f (mkS (20 : Nat) [((3 : Nat), AVal.int IntKind.i64 (1 : Int)), ((8 : Nat), AVal.ro (Cont.ints IntKind.i64 xs) m (1 : Nat)), ((9 : Nat), AVal.int IntKind.i64 (↑m : Int)), ((10 : Nat), AVal.int IntKind.i64 (0 : Int))] []) else none) := by kernel_rfl
theorem round (xs : List Int) (m : Nat) (a : Int) (i f n : Nat) :
  L f (n + 1) (mkS 20 [(3, .int .i64 a), (8, .ro (.ints .i64 xs) m 1), (9, .int .i64 m), (10, .int .i64 (i : Int))] [])
  = (bif decide ((↑i : Int) < (↑m : Int)) then bif true && (decide ((0 : Int) ≤ (↑i : Int)) && decide ((↑i : Int) < (↑m : Int))) then bif decide ((↑i : Int).toNat < xs.length) then L f n (mkS (20 : Nat) [((3 : Nat), AVal.int IntKind.i64 (if (1000000000001 : Int) < IntKind.i64.wrap (a * gz xs (↑i : Int).toNat) then (1000000000001 : Int) else IntKind.i64.wrap (a * gz xs (↑i : Int).toNat))), ((8 : Nat), AVal.ro (Cont.ints IntKind.i64 xs) m (1 : Nat)), ((9 : Nat), AVal.int IntKind.i64 (↑m : Int)), ((10 : Nat), AVal.int IntKind.i64 (IntKind.i64.wrap ((↑i : Int) + (1 : Int))))] []) else none else none else some (AVal.int IntKind.i64 a, [])) := by kernel_rfl
theorem loop (xs : List Int) (m f : Nat) (hx : m ≤ xs.length) (hb : m ≤ 1000) (h : ∀ k, 0 ≤ gz xs k ∧ gz xs k ≤ 8000) : ∀ (d i n : Nat), i + d = m → d < n →
    L f n (mkS 20 [(3, .int .i64 (pf.cap xs i)), (8, .ro (.ints .i64 xs) m 1), (9, .int .i64 m), (10, .int .i64 (i : Int))] []) = some (.int .i64 (pf.cap xs m), []) := by
  intro d
  induction d with
  | zero =>
    intro i n hi hn
    obtain ⟨n, rfl⟩ : ∃ k, n = k + 1 := ⟨n - 1, by omega⟩
    obtain rfl : i = m := by omega
    rw [round]
    simp -implicitDefEqProofs (disch := omega) only [take_one, set_one, decide_eq_true, decide_eq_false, IntWalk.i64_in, beqT, beqF, bneT, bneF, nat_succ, ← Int.natCast_mul, ← Int.natCast_add, Int.toNat_natCast, Int.zero_mul, Int.zero_add, Int.add_zero, Nat.zero_add, Nat.add_zero, Nat.zero_mul, List.length_singleton, List.length_append, List.length_nil, List.length_cons, List.take_length, List.drop_zero, List.replicate_zero, List.take_nil, List.nil_append, Nat.reduceBEq, Nat.reduceMul, Nat.reduceLeDiff, eq_self, and_self, true_and, and_true, decide_true, decide_false, Bool.and_self, Bool.or_self, Bool.and_true, Bool.true_and, Bool.and_false, Bool.false_and, Bool.or_true, Bool.true_or, Bool.or_false, Bool.false_or, Bool.not_true, Bool.not_false, cond_true, cond_false]
  | succ d ih =>
    intro i n hi hn
    obtain ⟨n, rfl⟩ : ∃ k, n = k + 1 := ⟨n - 1, by omega⟩
    have g := ih (i + 1) n (by omega) (by omega)
    have b1 := pf.cap_mul h i
    rw [pf.cap] at g
    rw [round]
    simp -implicitDefEqProofs (disch := omega) only [take_one, set_one, decide_eq_true, decide_eq_false, IntWalk.i64_in, beqT, beqF, bneT, bneF, nat_succ, ← Int.natCast_mul, ← Int.natCast_add, Int.toNat_natCast, Int.zero_mul, Int.zero_add, Int.add_zero, Nat.zero_add, Nat.add_zero, Nat.zero_mul, List.length_singleton, List.length_append, List.length_nil, List.length_cons, List.take_length, List.drop_zero, List.replicate_zero, List.take_nil, List.nil_append, Nat.reduceBEq, Nat.reduceMul, Nat.reduceLeDiff, eq_self, and_self, true_and, and_true, decide_true, decide_false, Bool.and_self, Bool.or_self, Bool.and_true, Bool.true_and, Bool.and_false, Bool.false_and, Bool.or_true, Bool.true_or, Bool.or_false, Bool.false_or, Bool.not_true, Bool.not_false, cond_true, cond_false]
    exact g
theorem run : ∀ args v new, R args = some (true, v, new) → ∃ fuel, runFn Try.prog (orc [⟨116, slContainsP.R⟩]) hd Dr.std none fuel (bodyOf Try.f72) 20 [2] args [] = some (v, new) := by
  intro args v new h
  unfold R at h
  split at h
  · rename_i xs m
    simp only [Option.some.injEq, Prod.mk.injEq, Bool.and_eq_true, decide_eq_true_eq] at h
    obtain ⟨⟨⟨h1, h2⟩, hs⟩, rfl, rfl⟩ := h
    refine ⟨m + 1, ?_⟩
    have g := loop xs m (m + 1) h1 h2 (pf.small hs) m 0 (m + 1) (by omega) (by omega)
    unfold pf.prod.sv
    rw [start]
    simp -implicitDefEqProofs (disch := omega) only [take_one, set_one, decide_eq_true, decide_eq_false, IntWalk.i64_in, beqT, beqF, bneT, bneF, nat_succ, ← Int.natCast_mul, ← Int.natCast_add, Int.toNat_natCast, Int.zero_mul, Int.zero_add, Int.add_zero, Nat.zero_add, Nat.add_zero, Nat.zero_mul, List.length_singleton, List.length_append, List.length_nil, List.length_cons, List.take_length, List.drop_zero, List.replicate_zero, List.take_nil, List.nil_append, Nat.reduceBEq, Nat.reduceMul, Nat.reduceLeDiff, eq_self, and_self, true_and, and_true, decide_true, decide_false, Bool.and_self, Bool.or_self, Bool.and_true, Bool.true_and, Bool.and_false, Bool.false_and, Bool.or_true, Bool.true_or, Bool.or_false, Bool.false_or, Bool.not_true, Bool.not_false, cond_true, cond_false]
    cases (xs.take m).any (fun y => 0 == y)
    · exact g
    · rfl
  · cases h
theorem ok : EntOk Try.prog ⟨72, R⟩ :=
  ent_okA mixed (A := (orc [⟨116, slContainsP.R⟩])) (orc_ok (by simp only [List.mem_cons, List.not_mem_nil, or_false, forall_eq_or_imp, forall_eq]; exact slContainsP.ok)) Try.func72 (by kernel_rfl) (by kernel_rfl) (n := 20) (ts := [2]) (hd := hd) (dr := Dr.std) (cut := none) (by kernel_rfl) (by kernel_rfl) (by kernel_rfl) run
end productOf

namespace cmpNum
def R : List AVal → Option (Bool × AVal × List Blk)
  | [.int .i64 a, .int .i64 b] => some (true, .int .i64 (so.cn.sv a b), [])
  | _ => none
theorem go (a b : Int) :
  runFn Try.prog (orc []) hd0 Dr.std none 0 (bodyOf Try.f80) 13 [4] [.int .i64 a, .int .i64 b] []
  = (bif decide (a < b) then some (AVal.int IntKind.i64 (-1 : Int), []) else bif decide (b < a) then some (AVal.int IntKind.i64 (1 : Int), []) else some (AVal.int IntKind.i64 (0 : Int), [])) := by kernel_rfl
theorem run : ∀ args v new, R args = some (true, v, new) → ∃ fuel, runFn Try.prog (orc []) hd0 Dr.std none fuel (bodyOf Try.f80) 13 [4] args [] = some (v, new) := by
  intro args v new h
  unfold R at h
  split at h
  · rename_i a b
    simp only [Option.some.injEq, Prod.mk.injEq] at h
    obtain ⟨_, rfl, rfl⟩ := h
    refine ⟨0, ?_⟩
    rw [go]
    unfold so.cn.sv
    cases decide (a < b)
    · cases decide (b < a) <;> rfl
    · rfl
  · cases h
theorem ok : EntOk Try.prog ⟨80, R⟩ :=
  ent_okA mixed (A := (orc [])) (orc_ok (by simp)) Try.func80 (by kernel_rfl) (by kernel_rfl) (n := 13) (ts := [4]) (hd := hd0) (dr := Dr.std) (cut := none) (by kernel_rfl) (by kernel_rfl) (by kernel_rfl) run
end cmpNum

namespace cmpS
def R : List AVal → Option (Bool × AVal × List Blk)
  | [.int .i64 a, .int .i64 b, .rom [.ro (.ints .i64 ot) mt 1] 0, .rom [.ro (.ints .i64 ow) mw 1] 0] => some (decide (mt = ot.length ∧ mw = ow.length ∧ 0 ≤ a ∧ a < (mt : Int) ∧ 0 ≤ b ∧ b < (mt : Int) ∧ mw = mt) && (so.sm.sp ow && so.sm.sp ot), .int .i64 (so.cmp.sv ow ot a b), [])
  | _ => none
theorem go (a b : Int) (ot ow : List Int) (mt mw : Nat) :
  runFn Try.prog (orc [⟨80, cmpNum.R⟩]) hd0 Dr.std none 0 (bodyOf Try.f79) 51 [6] [.int .i64 a, .int .i64 b, .rom [.ro (.ints .i64 ot) mt 1] 0, .rom [.ro (.ints .i64 ow) mw 1] 0] []
  = (bif true && (decide ((0 : Int) ≤ a) && decide (a < (↑mt : Int))) then bif decide (a.toNat < ot.length) then bif gz ot a.toNat == (0 : Int) then bif true && (decide ((0 : Int) ≤ b) && decide (b < (↑mt : Int))) then bif decide (b.toNat < ot.length) then bif gz ot b.toNat == (0 : Int) then some (AVal.int IntKind.i64 (0 : Int), []) else bif true && (decide ((0 : Int) ≤ a) && decide (a < (↑mt : Int))) then bif decide (a.toNat < ot.length) then bif gz ot a.toNat == (0 : Int) then some (AVal.int IntKind.i64 (1 : Int), []) else bif true && (decide ((0 : Int) ≤ b) && decide (b < (↑mt : Int))) then bif decide (b.toNat < ot.length) then bif gz ot b.toNat == (0 : Int) then some (AVal.int IntKind.i64 (-1 : Int), []) else bif true && (decide ((0 : Int) ≤ a) && decide (a < (↑mw : Int))) then bif decide (a.toNat < ow.length) then bif true && (decide ((0 : Int) ≤ b) && decide (b < (↑mt : Int))) then bif decide (b.toNat < ot.length) then bif true && (decide ((0 : Int) ≤ b) && decide (b < (↑mw : Int))) then bif decide (b.toNat < ow.length) then bif true && (decide ((0 : Int) ≤ a) && decide (a < (↑mt : Int))) then bif decide (a.toNat < ot.length) then bif true && (true && (true && true) || true && true) then some (AVal.int IntKind.i64 (so.cn.sv (IntKind.i64.wrap (gz ow a.toNat * gz ot b.toNat)) (IntKind.i64.wrap (gz ow b.toNat * gz ot a.toNat))), []) else none else none else none else none else none else none else none else none else none else none else none else none else none else none else none else bif true && (decide ((0 : Int) ≤ a) && decide (a < (↑mt : Int))) then bif decide (a.toNat < ot.length) then bif gz ot a.toNat == (0 : Int) then some (AVal.int IntKind.i64 (1 : Int), []) else bif true && (decide ((0 : Int) ≤ b) && decide (b < (↑mt : Int))) then bif decide (b.toNat < ot.length) then bif gz ot b.toNat == (0 : Int) then some (AVal.int IntKind.i64 (-1 : Int), []) else bif true && (decide ((0 : Int) ≤ a) && decide (a < (↑mw : Int))) then bif decide (a.toNat < ow.length) then bif true && (decide ((0 : Int) ≤ b) && decide (b < (↑mt : Int))) then bif decide (b.toNat < ot.length) then bif true && (decide ((0 : Int) ≤ b) && decide (b < (↑mw : Int))) then bif decide (b.toNat < ow.length) then bif true && (decide ((0 : Int) ≤ a) && decide (a < (↑mt : Int))) then bif decide (a.toNat < ot.length) then bif true && (true && (true && true) || true && true) then some (AVal.int IntKind.i64 (so.cn.sv (IntKind.i64.wrap (gz ow a.toNat * gz ot b.toNat)) (IntKind.i64.wrap (gz ow b.toNat * gz ot a.toNat))), []) else none else none else none else none else none else none else none else none else none else none else none else none else none else none else none) := by kernel_rfl
theorem run : ∀ args v new, R args = some (true, v, new) → ∃ fuel, runFn Try.prog (orc [⟨80, cmpNum.R⟩]) hd0 Dr.std none fuel (bodyOf Try.f79) 51 [6] args [] = some (v, new) := by
  intro args v new h
  unfold R at h
  split at h
  · rename_i a b ot mt ow mw
    simp only [Option.some.injEq, Prod.mk.injEq, Bool.and_eq_true, decide_eq_true_eq] at h
    obtain ⟨⟨⟨rfl, rfl, h1, h2, h3, h4, h5⟩, w, v⟩, rfl, rfl⟩ := h
    refine ⟨0, ?_⟩
    have m1 := so.mul_in w v a.toNat b.toNat
    have m2 := so.mul_in w v b.toNat a.toNat
    rw [go]
    unfold so.cmp.sv
    simp -implicitDefEqProofs (disch := omega) only [take_one, set_one, decide_eq_true, decide_eq_false, IntWalk.i64_in, beqT, beqF, bneT, bneF, nat_succ, ← Int.natCast_mul, ← Int.natCast_add, Int.toNat_natCast, Int.zero_mul, Int.zero_add, Int.add_zero, Nat.zero_add, Nat.add_zero, Nat.zero_mul, List.length_singleton, List.length_append, List.length_nil, List.length_cons, List.take_length, List.drop_zero, List.replicate_zero, List.take_nil, List.nil_append, Nat.reduceBEq, Nat.reduceMul, Nat.reduceLeDiff, eq_self, and_self, true_and, and_true, decide_true, decide_false, Bool.and_self, Bool.or_self, Bool.and_true, Bool.true_and, Bool.and_false, Bool.false_and, Bool.or_true, Bool.true_or, Bool.or_false, Bool.false_or, Bool.not_true, Bool.not_false, cond_true, cond_false]
    cases gz ot a.toNat == 0 <;> cases gz ot b.toNat == 0 <;> rfl
  · cases h
theorem ok : EntOk Try.prog ⟨79, R⟩ :=
  ent_okA mixed (A := (orc [⟨80, cmpNum.R⟩])) (orc_ok (by simp only [List.mem_cons, List.not_mem_nil, or_false, forall_eq_or_imp, forall_eq]; exact cmpNum.ok)) Try.func79 (by kernel_rfl) (by kernel_rfl) (n := 51) (ts := [6]) (hd := hd0) (dr := Dr.std) (cut := none) (by kernel_rfl) (by kernel_rfl) (by kernel_rfl) run
end cmpS

namespace insP
def R : List AVal → Heap → Option (Bool × AVal × Heap)
  | [.own 0 0 m 0 1, .int .i64 a, .int .i64 b, .fn ff [.ptr 1 0 0, .ptr 2 0 0]], [⟨.typ (.ints .i64 os), 0⟩, ⟨.cells [.ro (.ints .i64 ot) mt 1], 0⟩, ⟨.cells [.ro (.ints .i64 ow) mw 1], 0⟩] => some (decide (a = 0 ∧ b = (m : Int) ∧ mt = ot.length ∧ mw = ow.length ∧ mw = mt ∧ m = os.length ∧ m ≤ 16 ∧ ff = 79) && (so.sm.sp ow && (so.sm.sp ot && so.in.sp mt os)), .tup [], [⟨.typ (.ints .i64 (so.sort.sv ow ot os)), 0⟩, ⟨.cells [.ro (.ints .i64 ot) mt 1], 0⟩, ⟨.cells [.ro (.ints .i64 ow) mw 1], 0⟩])
  | _, _ => none
def hd : Nat → Head := fun i => bif eqN i 2 then ⟨[0, 1, 2, 3, 8, 9], some 0⟩ else ⟨[0, 1, 2, 3, 8], some 0⟩
noncomputable def L1 (f n : Nat) (s : State) := loopAt Try.prog (orc [⟨79, cmpS.R⟩]) hd Dr.std 3 f (bodyOf Try.f161) 0 [true] (retK Try.prog [] 3 (some 0)) n s
noncomputable def L2 (f n n2 : Nat) (s : State) := loopAt Try.prog (orc [⟨79, cmpS.R⟩]) hd Dr.std 3 f (bodyAt (bodyOf Try.f161) [true]) (curAt (bodyOf Try.f161) 0 [true]) [true, false, true] (iterK (normE 3 (hd (curAt (bodyOf Try.f161) 0 [true]))) (L1 f n) (contAt Try.prog (orc [⟨79, cmpS.R⟩]) hd Dr.std 3 f (bodyOf Try.f161) 0 [true] (retK Try.prog [] 3 (some 0)))) n2 s
theorem start (ot ow : List Int) (mt mw m : Nat) (os : List Int) (f : Nat) :
  runFn Try.prog (orc [⟨79, cmpS.R⟩]) hd Dr.std (some 0) f (bodyOf Try.f161) 53 [] [.own 0 0 m 0 1, .int .i64 0, .int .i64 m, .fn 79 [.ptr 1 0 0, .ptr 2 0 0]] [⟨.typ (.ints .i64 os), 0⟩, ⟨.cells [.ro (.ints .i64 ot) mt 1], 0⟩, ⟨.cells [.ro (.ints .i64 ow) mw 1], 0⟩]
  = (bif true && (true && (true && true)) then L1 f f (mkS (53 : Nat) [((0 : Nat), AVal.own (0 : Nat) (0 : Nat) m (0 : Nat) (1 : Nat)), ((1 : Nat), AVal.int IntKind.i64 (0 : Int)), ((2 : Nat), AVal.int IntKind.i64 (↑m : Int)), ((3 : Nat), AVal.fn (79 : Nat) [AVal.ptr (1 : Nat) (0 : Nat) (0 : Nat), AVal.ptr (2 : Nat) (0 : Nat) (0 : Nat)]), ((8 : Nat), AVal.int IntKind.i64 (1 : Int))] [{ c := BC.typ (Cont.ints IntKind.i64 os), ver := (0 : Nat) }, { c := BC.cells [AVal.ro (Cont.ints IntKind.i64 ot) mt (1 : Nat)], ver := (0 : Nat) }, { c := BC.cells [AVal.ro (Cont.ints IntKind.i64 ow) mw (1 : Nat)], ver := (0 : Nat) }]) else none) := by kernel_rfl
theorem round1 (ot ow : List Int) (mt mw m : Nat) (os : List Int) (i : Nat) (f n : Nat) :
  L1 f (n + 1) (mkS 53 [(0, .own 0 0 m 0 1), (1, .int .i64 0), (2, .int .i64 m), (3, .fn 79 [.ptr 1 0 0, .ptr 2 0 0]), (8, .int .i64 i)] [⟨.typ (.ints .i64 os), 0⟩, ⟨.cells [.ro (.ints .i64 ot) mt 1], 0⟩, ⟨.cells [.ro (.ints .i64 ow) mw 1], 0⟩])
  = (bif decide ((↑i : Int) < (↑m : Int)) then L2 f n f (mkS (53 : Nat) [((0 : Nat), AVal.own (0 : Nat) (0 : Nat) m (0 : Nat) (1 : Nat)), ((1 : Nat), AVal.int IntKind.i64 (0 : Int)), ((2 : Nat), AVal.int IntKind.i64 (↑m : Int)), ((3 : Nat), AVal.fn (79 : Nat) [AVal.ptr (1 : Nat) (0 : Nat) (0 : Nat), AVal.ptr (2 : Nat) (0 : Nat) (0 : Nat)]), ((8 : Nat), AVal.int IntKind.i64 (↑i : Int)), ((9 : Nat), AVal.int IntKind.i64 (↑i : Int))] [{ c := BC.typ (Cont.ints IntKind.i64 os), ver := (0 : Nat) }, { c := BC.cells [AVal.ro (Cont.ints IntKind.i64 ot) mt (1 : Nat)], ver := (0 : Nat) }, { c := BC.cells [AVal.ro (Cont.ints IntKind.i64 ow) mw (1 : Nat)], ver := (0 : Nat) }]) else some (AVal.tup [], [{ c := BC.typ (Cont.ints IntKind.i64 os), ver := (0 : Nat) }, { c := BC.cells [AVal.ro (Cont.ints IntKind.i64 ot) mt (1 : Nat)], ver := (0 : Nat) }, { c := BC.cells [AVal.ro (Cont.ints IntKind.i64 ow) mw (1 : Nat)], ver := (0 : Nat) }])) := by kernel_rfl
theorem round2 (ot ow : List Int) (mt mw m : Nat) (os : List Int) (i j : Nat) (f n n2 : Nat) :
  L2 f n (n2 + 1) (mkS 53 [(0, .own 0 0 m 0 1), (1, .int .i64 0), (2, .int .i64 m), (3, .fn 79 [.ptr 1 0 0, .ptr 2 0 0]), (8, .int .i64 i), (9, .int .i64 j)] [⟨.typ (.ints .i64 os), 0⟩, ⟨.cells [.ro (.ints .i64 ot) mt 1], 0⟩, ⟨.cells [.ro (.ints .i64 ow) mw 1], 0⟩])
  = (bif decide ((0 : Int) < (↑j : Int)) then bif true && (decide ((0 : Int) ≤ (↑j : Int)) && decide ((↑j : Int) < (↑m : Int))) then bif true && decide ((↑j : Int).toNat < os.length) then bif true && (decide ((0 : Int) ≤ IntKind.i64.wrap ((↑j : Int) - (1 : Int))) && decide (IntKind.i64.wrap ((↑j : Int) - (1 : Int)) < (↑m : Int))) then bif true && decide ((IntKind.i64.wrap ((↑j : Int) - (1 : Int))).toNat < os.length) then bif decide (mt = ot.length ∧ mw = ow.length ∧ (0 : Int) ≤ gz os (↑j : Int).toNat ∧ gz os (↑j : Int).toNat < (↑mt : Int) ∧ (0 : Int) ≤ gz os (IntKind.i64.wrap ((↑j : Int) - (1 : Int))).toNat ∧ gz os (IntKind.i64.wrap ((↑j : Int) - (1 : Int))).toNat < (↑mt : Int) ∧ mw = mt) && (so.sm.sp ow && so.sm.sp ot) && (true && (true && false) || true && true) then bif decide (so.cmp.sv ow ot (gz os (↑j : Int).toNat) (gz os (IntKind.i64.wrap ((↑j : Int) - (1 : Int))).toNat) < (0 : Int)) then bif true && (decide ((0 : Int) ≤ IntKind.i64.wrap ((↑j : Int) - (1 : Int))) && decide (IntKind.i64.wrap ((↑j : Int) - (1 : Int)) < (↑m : Int))) then bif true && decide ((IntKind.i64.wrap ((↑j : Int) - (1 : Int))).toNat < os.length) then bif true && (decide ((0 : Int) ≤ (↑j : Int)) && decide ((↑j : Int) < (↑m : Int))) then bif true && decide ((↑j : Int).toNat < os.length) then bif true && (decide ((0 : Int) ≤ (↑j : Int)) && decide ((↑j : Int) < (↑m : Int))) then bif true && (true && (decide ((↑j : Int).toNat < os.length) && true)) then bif true && (decide ((0 : Int) ≤ IntKind.i64.wrap ((↑j : Int) - (1 : Int))) && decide (IntKind.i64.wrap ((↑j : Int) - (1 : Int)) < (↑m : Int))) then bif true && (true && (decide ((IntKind.i64.wrap ((↑j : Int) - (1 : Int))).toNat < (os.set (↑j : Int).toNat (gz os (IntKind.i64.wrap ((↑j : Int) - (1 : Int))).toNat)).length) && true)) then L2 f n n2 (mkS (53 : Nat) [((0 : Nat), AVal.own (0 : Nat) (0 : Nat) m (0 : Nat) (1 : Nat)), ((1 : Nat), AVal.int IntKind.i64 (0 : Int)), ((2 : Nat), AVal.int IntKind.i64 (↑m : Int)), ((3 : Nat), AVal.fn (79 : Nat) [AVal.ptr (1 : Nat) (0 : Nat) (0 : Nat), AVal.ptr (2 : Nat) (0 : Nat) (0 : Nat)]), ((8 : Nat), AVal.int IntKind.i64 (↑i : Int)), ((9 : Nat), AVal.int IntKind.i64 (IntKind.i64.wrap ((↑j : Int) - (1 : Int))))] [{ c := BC.typ (Cont.ints IntKind.i64 ((os.set (↑j : Int).toNat (gz os (IntKind.i64.wrap ((↑j : Int) - (1 : Int))).toNat)).set (IntKind.i64.wrap ((↑j : Int) - (1 : Int))).toNat (gz os (↑j : Int).toNat))), ver := (0 : Nat) }, { c := BC.cells [AVal.ro (Cont.ints IntKind.i64 ot) mt (1 : Nat)], ver := (0 : Nat) }, { c := BC.cells [AVal.ro (Cont.ints IntKind.i64 ow) mw (1 : Nat)], ver := (0 : Nat) }]) else none else none else none else none else none else none else none else none else L1 f n (mkS (53 : Nat) [((0 : Nat), AVal.own (0 : Nat) (0 : Nat) m (0 : Nat) (1 : Nat)), ((1 : Nat), AVal.int IntKind.i64 (0 : Int)), ((2 : Nat), AVal.int IntKind.i64 (↑m : Int)), ((3 : Nat), AVal.fn (79 : Nat) [AVal.ptr (1 : Nat) (0 : Nat) (0 : Nat), AVal.ptr (2 : Nat) (0 : Nat) (0 : Nat)]), ((8 : Nat), AVal.int IntKind.i64 (IntKind.i64.wrap ((↑i : Int) + (1 : Int))))] [{ c := BC.typ (Cont.ints IntKind.i64 os), ver := (0 : Nat) }, { c := BC.cells [AVal.ro (Cont.ints IntKind.i64 ot) mt (1 : Nat)], ver := (0 : Nat) }, { c := BC.cells [AVal.ro (Cont.ints IntKind.i64 ow) mw (1 : Nat)], ver := (0 : Nat) }]) else none else none else none else none else none else L1 f n (mkS (53 : Nat) [((0 : Nat), AVal.own (0 : Nat) (0 : Nat) m (0 : Nat) (1 : Nat)), ((1 : Nat), AVal.int IntKind.i64 (0 : Int)), ((2 : Nat), AVal.int IntKind.i64 (↑m : Int)), ((3 : Nat), AVal.fn (79 : Nat) [AVal.ptr (1 : Nat) (0 : Nat) (0 : Nat), AVal.ptr (2 : Nat) (0 : Nat) (0 : Nat)]), ((8 : Nat), AVal.int IntKind.i64 (IntKind.i64.wrap ((↑i : Int) + (1 : Int))))] [{ c := BC.typ (Cont.ints IntKind.i64 os), ver := (0 : Nat) }, { c := BC.cells [AVal.ro (Cont.ints IntKind.i64 ot) mt (1 : Nat)], ver := (0 : Nat) }, { c := BC.cells [AVal.ro (Cont.ints IntKind.i64 ow) mw (1 : Nat)], ver := (0 : Nat) }])) := by kernel_rfl
theorem inner (ot ow : List Int) (mt mw m : Nat) (hw : so.sm.sp ow = true) (hv : so.sm.sp ot = true) (hm : m ≤ 1000) (h1 : mt = ot.length) (h2 : mw = ow.length) (h3 : mw = mt) (f n i : Nat) (hi : i < m) : ∀ (j n2 : Nat) (os : List Int), j < n2 → j < os.length → os.length = m → so.In mt os →
    L2 f n n2 (mkS 53 [(0, .own 0 0 m 0 1), (1, .int .i64 0), (2, .int .i64 m), (3, .fn 79 [.ptr 1 0 0, .ptr 2 0 0]), (8, .int .i64 ((i : Nat) : Int)), (9, .int .i64 ((j : Nat) : Int))] [⟨.typ (.ints .i64 os), 0⟩, ⟨.cells [.ro (.ints .i64 ot) mt 1], 0⟩, ⟨.cells [.ro (.ints .i64 ow) mw 1], 0⟩]) = L1 f n (mkS 53 [(0, .own 0 0 m 0 1), (1, .int .i64 0), (2, .int .i64 m), (3, .fn 79 [.ptr 1 0 0, .ptr 2 0 0]), (8, .int .i64 (((i + 1) : Nat) : Int))] [⟨.typ (.ints .i64 (so.down (so.lt.sp ow ot) j os)), 0⟩, ⟨.cells [.ro (.ints .i64 ot) mt 1], 0⟩, ⟨.cells [.ro (.ints .i64 ow) mw 1], 0⟩]) := by
  intro j
  induction j with
  | zero =>
    intro n2 os hn hj hl hin
    obtain ⟨n2, rfl⟩ : ∃ k, n2 = k + 1 := ⟨n2 - 1, by omega⟩
    rw [round2, so.down]
    simp -implicitDefEqProofs (disch := omega) only [take_one, set_one, decide_eq_true, decide_eq_false, IntWalk.i64_in, beqT, beqF, bneT, bneF, nat_succ, ← Int.natCast_mul, ← Int.natCast_add, Int.toNat_natCast, Int.zero_mul, Int.zero_add, Int.add_zero, Nat.zero_add, Nat.add_zero, Nat.zero_mul, List.length_singleton, List.length_append, List.length_nil, List.length_cons, List.take_length, List.drop_zero, List.replicate_zero, List.take_nil, List.nil_append, Nat.reduceBEq, Nat.reduceMul, Nat.reduceLeDiff, eq_self, and_self, true_and, and_true, decide_true, decide_false, Bool.and_self, Bool.or_self, Bool.and_true, Bool.true_and, Bool.and_false, Bool.false_and, Bool.or_true, Bool.true_or, Bool.or_false, Bool.false_or, Bool.not_true, Bool.not_false, cond_true, cond_false]
  | succ j ih =>
    intro n2 os hn hj hl hin
    obtain ⟨n2, rfl⟩ : ∃ k, n2 = k + 1 := ⟨n2 - 1, by omega⟩
    have wj : ((j + 1 : Nat) : Int) - 1 = (j : Int) := by omega
    obtain ⟨a1, a2⟩ := hin (j + 1) hj
    obtain ⟨b1, b2⟩ := hin j (by omega)
    have hih := ih n2 (so.swap os j) (by omega) (by rw [so.swap_length]; omega) (by rw [so.swap_length]; exact hl) (hin.swap hj)
    simp only [so.swap] at hih
    have e : decide (so.cmp.sv ow ot (gz os (j + 1)) (gz os j) < 0) = so.lt.sp ow ot (gz os (j + 1)) (gz os j) := rfl
    rw [round2]
    simp only [so.down]
    simp -implicitDefEqProofs (disch := omega) only [hw, hv, wj, e, List.length_set, take_one, set_one, decide_eq_true, decide_eq_false, IntWalk.i64_in, beqT, beqF, bneT, bneF, nat_succ, ← Int.natCast_mul, ← Int.natCast_add, Int.toNat_natCast, Int.zero_mul, Int.zero_add, Int.add_zero, Nat.zero_add, Nat.add_zero, Nat.zero_mul, List.length_singleton, List.length_append, List.length_nil, List.length_cons, List.take_length, List.drop_zero, List.replicate_zero, List.take_nil, List.nil_append, Nat.reduceBEq, Nat.reduceMul, Nat.reduceLeDiff, eq_self, and_self, true_and, and_true, decide_true, decide_false, Bool.and_self, Bool.or_self, Bool.and_true, Bool.true_and, Bool.and_false, Bool.false_and, Bool.or_true, Bool.true_or, Bool.or_false, Bool.false_or, Bool.not_true, Bool.not_false, cond_true, cond_false]
    cases hc : so.lt.sp ow ot (gz os (j + 1)) (gz os j)
    · simp -implicitDefEqProofs only [cond_false]
    · simp -implicitDefEqProofs only [cond_true, so.swap]
      exact hih
theorem outer (ot ow : List Int) (mt mw m : Nat) (hw : so.sm.sp ow = true) (hv : so.sm.sp ot = true) (hm : m ≤ 1000) (h1 : mt = ot.length) (h2 : mw = ow.length) (h3 : mw = mt) (f : Nat) (hf : m < f) (os : List Int) (hl : os.length = m) (hin : so.In mt os) : ∀ (d i n : Nat), (i + d = m ∨ (d = 0 ∧ m ≤ i)) → d < n →
    L1 f n (mkS 53 [(0, .own 0 0 m 0 1), (1, .int .i64 0), (2, .int .i64 m), (3, .fn 79 [.ptr 1 0 0, .ptr 2 0 0]), (8, .int .i64 ((i : Nat) : Int))] [⟨.typ (.ints .i64 (so.srt (so.lt.sp ow ot) os (min i m))), 0⟩, ⟨.cells [.ro (.ints .i64 ot) mt 1], 0⟩, ⟨.cells [.ro (.ints .i64 ow) mw 1], 0⟩]) = some (.tup [], [⟨.typ (.ints .i64 (so.srt (so.lt.sp ow ot) os m)), 0⟩, ⟨.cells [.ro (.ints .i64 ot) mt 1], 0⟩, ⟨.cells [.ro (.ints .i64 ow) mw 1], 0⟩]) := by
  intro d
  induction d with
  | zero =>
    intro i n hi hn
    obtain ⟨n, rfl⟩ : ∃ k, n = k + 1 := ⟨n - 1, by omega⟩
    rw [show min i m = m by omega, round1]
    simp -implicitDefEqProofs (disch := omega) only [take_one, set_one, decide_eq_true, decide_eq_false, IntWalk.i64_in, beqT, beqF, bneT, bneF, nat_succ, ← Int.natCast_mul, ← Int.natCast_add, Int.toNat_natCast, Int.zero_mul, Int.zero_add, Int.add_zero, Nat.zero_add, Nat.add_zero, Nat.zero_mul, List.length_singleton, List.length_append, List.length_nil, List.length_cons, List.take_length, List.drop_zero, List.replicate_zero, List.take_nil, List.nil_append, Nat.reduceBEq, Nat.reduceMul, Nat.reduceLeDiff, eq_self, and_self, true_and, and_true, decide_true, decide_false, Bool.and_self, Bool.or_self, Bool.and_true, Bool.true_and, Bool.and_false, Bool.false_and, Bool.or_true, Bool.true_or, Bool.or_false, Bool.false_or, Bool.not_true, Bool.not_false, cond_true, cond_false]
  | succ d ih =>
    intro i n hi hn
    obtain ⟨n, rfl⟩ : ∃ k, n = k + 1 := ⟨n - 1, by omega⟩
    have sl := so.srt_length (so.lt.sp ow ot) os i
    have hinn := inner ot ow mt mw m hw hv hm h1 h2 h3 f n i (by omega) i f (so.srt (so.lt.sp ow ot) os i) (by omega) (by omega) (by omega) (so.In.srt hin i (by omega))
    have hout := ih (i + 1) n (by omega) (by omega)
    rw [show min (i + 1) m = i + 1 by omega, so.srt] at hout
    rw [show min i m = i by omega, round1]
    simp -implicitDefEqProofs (disch := omega) only [take_one, set_one, decide_eq_true, decide_eq_false, IntWalk.i64_in, beqT, beqF, bneT, bneF, nat_succ, ← Int.natCast_mul, ← Int.natCast_add, Int.toNat_natCast, Int.zero_mul, Int.zero_add, Int.add_zero, Nat.zero_add, Nat.add_zero, Nat.zero_mul, List.length_singleton, List.length_append, List.length_nil, List.length_cons, List.take_length, List.drop_zero, List.replicate_zero, List.take_nil, List.nil_append, Nat.reduceBEq, Nat.reduceMul, Nat.reduceLeDiff, eq_self, and_self, true_and, and_true, decide_true, decide_false, Bool.and_self, Bool.or_self, Bool.and_true, Bool.true_and, Bool.and_false, Bool.false_and, Bool.or_true, Bool.true_or, Bool.or_false, Bool.false_or, Bool.not_true, Bool.not_false, cond_true, cond_false]
    exact hinn.trans hout
theorem run : ∀ args H v new, R args H = some (true, v, new) → ∃ fuel, runFn Try.prog (orc [⟨79, cmpS.R⟩]) hd Dr.std (some 0) fuel (bodyOf Try.f161) 53 [] args H = some (v, new) := by
  intro args H v new h
  unfold R at h
  split at h
  · rename_i m a b ff os ot mt ow mw
    simp only [Option.some.injEq, Prod.mk.injEq, Bool.and_eq_true, decide_eq_true_eq] at h
    obtain ⟨⟨⟨rfl, rfl, h1, h2, h3, h4, h5, rfl⟩, hw, hv, hi⟩, rfl, rfl⟩ := h
    obtain ⟨F, hF⟩ : ∃ F : Nat, F = 100 := ⟨100, rfl⟩
    refine ⟨F, ?_⟩
    have g := outer ot ow mt mw m hw hv (by omega) h1 h2 h3 F (by omega) os h4.symm (so.in_of hi) (m - 1) 1 F (by omega) (by omega)
    have e : so.srt (so.lt.sp ow ot) os (min 1 m) = os := by
      have : min 1 m = 0 ∨ min 1 m = 1 := by omega
      rcases this with e | e <;> rw [e] <;> rfl
    rw [e] at g
    rw [start]
    unfold so.sort.sv
    rw [← h4]
    exact g
  · cases h
theorem ok : EntWOk Try.prog ⟨161, R⟩ :=
  entw_ok mixed (A := (orc [⟨79, cmpS.R⟩])) (orc_ok (by simp only [List.mem_cons, List.not_mem_nil, or_false, forall_eq_or_imp, forall_eq]; exact cmpS.ok)) Try.func161 (by kernel_rfl) (by kernel_rfl) (n := 53) (ts := []) (hd := hd) (dr := Dr.std) (cut := (some 0)) (by kernel_rfl) (by kernel_rfl) (by kernel_rfl) run
end insP

namespace stableP
def R : List AVal → Heap → Option (Bool × AVal × Heap)
  | [.own 0 0 m 0 1, .int .i64 b, .fn ff [.ptr 1 0 0, .ptr 2 0 0]], [⟨.typ (.ints .i64 os), 0⟩, ⟨.cells [.ro (.ints .i64 ot) mt 1], 0⟩, ⟨.cells [.ro (.ints .i64 ow) mw 1], 0⟩] => some (decide (b = (m : Int) ∧ mt = ot.length ∧ mw = ow.length ∧ mw = mt ∧ m = os.length ∧ m ≤ 16 ∧ ff = 79) && (so.sm.sp ow && (so.sm.sp ot && so.in.sp mt os)), .tup [], [⟨.typ (.ints .i64 (so.sort.sv ow ot os)), 0⟩, ⟨.cells [.ro (.ints .i64 ot) mt 1], 0⟩, ⟨.cells [.ro (.ints .i64 ow) mw 1], 0⟩])
  | _, _ => none
def hd : Nat → Head := fun i => bif eqN i 0 then ⟨[0, 1, 2, 6, 7, 8], some 0⟩ else bif eqN i 4 then ⟨[0, 1, 2, 6, 7, 8], some 0⟩ else ⟨[0, 1, 2, 6], some 0⟩
noncomputable def LA (f n : Nat) (s : State) := loopAt Try.prog (orcW [⟨161, insP.R⟩] []) hd Dr.std 3 f (bodyOf Try.f132) 0 [true, true, false] (retK Try.prog [] 3 (some 0)) n s
noncomputable def LB (f n : Nat) (s : State) := loopAt Try.prog (orcW [⟨161, insP.R⟩] []) hd Dr.std 3 f (bodyOf Try.f132) 0 [true, true, true, true] (retK Try.prog [] 3 (some 0)) n s
noncomputable def LC (f n n2 : Nat) (s : State) := loopAt Try.prog (orcW [⟨161, insP.R⟩] []) hd Dr.std 3 f (bodyAt (bodyOf Try.f132) [true, true, true, true]) (curAt (bodyOf Try.f132) 0 [true, true, true, true]) [true, true, false] (iterK (normE 3 (hd (curAt (bodyOf Try.f132) 0 [true, true, true, true]))) (LB f n) (contAt Try.prog (orcW [⟨161, insP.R⟩] []) hd Dr.std 3 f (bodyOf Try.f132) 0 [true, true, true, true] (retK Try.prog [] 3 (some 0)))) n2 s
theorem start (ot ow : List Int) (mt mw m : Nat) (os : List Int) (f : Nat) :
  runFn Try.prog (orcW [⟨161, insP.R⟩] []) hd Dr.std (some 0) f (bodyOf Try.f132) 63 [] [.own 0 0 m 0 1, .int .i64 m, .fn 79 [.ptr 1 0 0, .ptr 2 0 0]] [⟨.typ (.ints .i64 os), 0⟩, ⟨.cells [.ro (.ints .i64 ot) mt 1], 0⟩, ⟨.cells [.ro (.ints .i64 ow) mw 1], 0⟩]
  = (bif true && (true && (true && true)) then LA f f (mkS (63 : Nat) [((0 : Nat), AVal.own (0 : Nat) (0 : Nat) m (0 : Nat) (1 : Nat)), ((1 : Nat), AVal.int IntKind.i64 (↑m : Int)), ((2 : Nat), AVal.fn (79 : Nat) [AVal.ptr (1 : Nat) (0 : Nat) (0 : Nat), AVal.ptr (2 : Nat) (0 : Nat) (0 : Nat)]), ((6 : Nat), AVal.int IntKind.i64 (20 : Int)), ((7 : Nat), AVal.int IntKind.i64 (0 : Int)), ((8 : Nat), AVal.int IntKind.i64 (20 : Int))] [{ c := BC.typ (Cont.ints IntKind.i64 os), ver := (0 : Nat) }, { c := BC.cells [AVal.ro (Cont.ints IntKind.i64 ot) mt (1 : Nat)], ver := (0 : Nat) }, { c := BC.cells [AVal.ro (Cont.ints IntKind.i64 ow) mw (1 : Nat)], ver := (0 : Nat) }]) else none) := by kernel_rfl
theorem roundA (ot ow : List Int) (mt mw m : Nat) (os : List Int) (f n : Nat) :
  LA f (n + 1) (mkS 63 [(0, .own 0 0 m 0 1), (1, .int .i64 m), (2, .fn 79 [.ptr 1 0 0, .ptr 2 0 0]), (6, .int .i64 20), (7, .int .i64 0), (8, .int .i64 20)] [⟨.typ (.ints .i64 os), 0⟩, ⟨.cells [.ro (.ints .i64 ot) mt 1], 0⟩, ⟨.cells [.ro (.ints .i64 ow) mw 1], 0⟩])
  = (bif decide ((20 : Int) ≤ (↑m : Int)) then bif decide ((0 : Int) = (0 : Int) ∧ (20 : Int) = (↑m : Int) ∧ mt = ot.length ∧ mw = ow.length ∧ mw = mt ∧ m = os.length ∧ m ≤ (16 : Nat) ∧ (79 : FuncId) = (79 : FuncId)) && (so.sm.sp ow && (so.sm.sp ot && so.in.sp mt os)) && (true && (true && (true && (true && true)))) then LA f n (mkS (63 : Nat) [((0 : Nat), AVal.own (0 : Nat) (0 : Nat) m (0 : Nat) (1 : Nat)), ((1 : Nat), AVal.int IntKind.i64 (↑m : Int)), ((2 : Nat), AVal.fn (79 : Nat) [AVal.ptr (1 : Nat) (0 : Nat) (0 : Nat), AVal.ptr (2 : Nat) (0 : Nat) (0 : Nat)]), ((6 : Nat), AVal.int IntKind.i64 (20 : Int)), ((7 : Nat), AVal.int IntKind.i64 (20 : Int)), ((8 : Nat), AVal.int IntKind.i64 (40 : Int))] [{ c := BC.typ (Cont.ints IntKind.i64 (so.sort.sv ow ot os)), ver := (0 : Nat) }, { c := BC.cells [AVal.ro (Cont.ints IntKind.i64 ot) mt (1 : Nat)], ver := (0 : Nat) }, { c := BC.cells [AVal.ro (Cont.ints IntKind.i64 ow) mw (1 : Nat)], ver := (0 : Nat) }]) else none else bif decide ((0 : Int) = (0 : Int) ∧ (↑m : Int) = (↑m : Int) ∧ mt = ot.length ∧ mw = ow.length ∧ mw = mt ∧ m = os.length ∧ m ≤ (16 : Nat) ∧ (79 : FuncId) = (79 : FuncId)) && (so.sm.sp ow && (so.sm.sp ot && so.in.sp mt os)) && (true && (true && (true && (true && true)))) then LB f f (mkS (63 : Nat) [((0 : Nat), AVal.own (0 : Nat) (0 : Nat) m (0 : Nat) (1 : Nat)), ((1 : Nat), AVal.int IntKind.i64 (↑m : Int)), ((2 : Nat), AVal.fn (79 : Nat) [AVal.ptr (1 : Nat) (0 : Nat) (0 : Nat), AVal.ptr (2 : Nat) (0 : Nat) (0 : Nat)]), ((6 : Nat), AVal.int IntKind.i64 (20 : Int))] [{ c := BC.typ (Cont.ints IntKind.i64 (so.sort.sv ow ot os)), ver := (0 : Nat) }, { c := BC.cells [AVal.ro (Cont.ints IntKind.i64 ot) mt (1 : Nat)], ver := (0 : Nat) }, { c := BC.cells [AVal.ro (Cont.ints IntKind.i64 ow) mw (1 : Nat)], ver := (0 : Nat) }]) else none) := by kernel_rfl
theorem roundB (ot ow : List Int) (mt mw m : Nat) (os : List Int) (f n : Nat) :
  LB f (n + 1) (mkS 63 [(0, .own 0 0 m 0 1), (1, .int .i64 m), (2, .fn 79 [.ptr 1 0 0, .ptr 2 0 0]), (6, .int .i64 20)] [⟨.typ (.ints .i64 os), 0⟩, ⟨.cells [.ro (.ints .i64 ot) mt 1], 0⟩, ⟨.cells [.ro (.ints .i64 ow) mw 1], 0⟩])
  = (bif decide ((20 : Int) < (↑m : Int)) then LC f n f (mkS (63 : Nat) [((0 : Nat), AVal.own (0 : Nat) (0 : Nat) m (0 : Nat) (1 : Nat)), ((1 : Nat), AVal.int IntKind.i64 (↑m : Int)), ((2 : Nat), AVal.fn (79 : Nat) [AVal.ptr (1 : Nat) (0 : Nat) (0 : Nat), AVal.ptr (2 : Nat) (0 : Nat) (0 : Nat)]), ((6 : Nat), AVal.int IntKind.i64 (20 : Int)), ((7 : Nat), AVal.int IntKind.i64 (0 : Int)), ((8 : Nat), AVal.int IntKind.i64 (40 : Int))] [{ c := BC.typ (Cont.ints IntKind.i64 os), ver := (0 : Nat) }, { c := BC.cells [AVal.ro (Cont.ints IntKind.i64 ot) mt (1 : Nat)], ver := (0 : Nat) }, { c := BC.cells [AVal.ro (Cont.ints IntKind.i64 ow) mw (1 : Nat)], ver := (0 : Nat) }]) else some (AVal.tup [], [{ c := BC.typ (Cont.ints IntKind.i64 os), ver := (0 : Nat) }, { c := BC.cells [AVal.ro (Cont.ints IntKind.i64 ot) mt (1 : Nat)], ver := (0 : Nat) }, { c := BC.cells [AVal.ro (Cont.ints IntKind.i64 ow) mw (1 : Nat)], ver := (0 : Nat) }])) := by kernel_rfl
theorem run : ∀ args H v new, R args H = some (true, v, new) → ∃ fuel, runFn Try.prog (orcW [⟨161, insP.R⟩] []) hd Dr.std (some 0) fuel (bodyOf Try.f132) 63 [] args H = some (v, new) := by
  intro args H v new h
  unfold R at h
  split at h
  · rename_i m b ff os ot mt ow mw
    simp only [Option.some.injEq, Prod.mk.injEq, Bool.and_eq_true, decide_eq_true_eq] at h
    obtain ⟨⟨⟨rfl, h1, h2, h3, h4, h5, rfl⟩, hw, hv, hi⟩, rfl, rfl⟩ := h
    obtain ⟨F, hF⟩ : ∃ F : Nat, F = 1 := ⟨1, rfl⟩
    refine ⟨F + 1, ?_⟩
    rw [start, roundA]
    simp -implicitDefEqProofs (disch := omega) only [hw, hv, hi, take_one, set_one, decide_eq_true, decide_eq_false, IntWalk.i64_in, beqT, beqF, bneT, bneF, nat_succ, ← Int.natCast_mul, ← Int.natCast_add, Int.toNat_natCast, Int.zero_mul, Int.zero_add, Int.add_zero, Nat.zero_add, Nat.add_zero, Nat.zero_mul, List.length_singleton, List.length_append, List.length_nil, List.length_cons, List.take_length, List.drop_zero, List.replicate_zero, List.take_nil, List.nil_append, Nat.reduceBEq, Nat.reduceMul, Nat.reduceLeDiff, eq_self, and_self, true_and, and_true, decide_true, decide_false, Bool.and_self, Bool.or_self, Bool.and_true, Bool.true_and, Bool.and_false, Bool.false_and, Bool.or_true, Bool.true_or, Bool.or_false, Bool.false_or, Bool.not_true, Bool.not_false, cond_true, cond_false]
    rw [roundB]
    simp -implicitDefEqProofs (disch := omega) only [hw, hv, hi, take_one, set_one, decide_eq_true, decide_eq_false, IntWalk.i64_in, beqT, beqF, bneT, bneF, nat_succ, ← Int.natCast_mul, ← Int.natCast_add, Int.toNat_natCast, Int.zero_mul, Int.zero_add, Int.add_zero, Nat.zero_add, Nat.add_zero, Nat.zero_mul, List.length_singleton, List.length_append, List.length_nil, List.length_cons, List.take_length, List.drop_zero, List.replicate_zero, List.take_nil, List.nil_append, Nat.reduceBEq, Nat.reduceMul, Nat.reduceLeDiff, eq_self, and_self, true_and, and_true, decide_true, decide_false, Bool.and_self, Bool.or_self, Bool.and_true, Bool.true_and, Bool.and_false, Bool.false_and, Bool.or_true, Bool.true_or, Bool.or_false, Bool.false_or, Bool.not_true, Bool.not_false, cond_true, cond_false]
  · cases h
theorem ok : EntWOk Try.prog ⟨132, R⟩ :=
  entw_ok mixed (A := (orcW [⟨161, insP.R⟩] [])) (orcW_ok (by simp only [List.mem_cons, List.not_mem_nil, or_false, forall_eq_or_imp, forall_eq]; exact insP.ok) (by simp)) Try.func132 (by kernel_rfl) (by kernel_rfl) (n := 63) (ts := []) (hd := hd) (dr := Dr.std) (cut := (some 0)) (by kernel_rfl) (by kernel_rfl) (by kernel_rfl) run
end stableP

namespace sortP
def R : List AVal → Heap → Option (Bool × AVal × Heap)
  | [.own 0 0 m 0 1, .fn ff [.ptr 1 0 0, .ptr 2 0 0]], [⟨.typ (.ints .i64 os), 0⟩, ⟨.cells [.ro (.ints .i64 ot) mt 1], 0⟩, ⟨.cells [.ro (.ints .i64 ow) mw 1], 0⟩] => some (decide (mt = ot.length ∧ mw = ow.length ∧ mw = mt ∧ m = os.length ∧ m ≤ 16 ∧ ff = 79) && (so.sm.sp ow && (so.sm.sp ot && so.in.sp mt os)), .tup [], [⟨.typ (.ints .i64 (so.sort.sv ow ot os)), 0⟩, ⟨.cells [.ro (.ints .i64 ot) mt 1], 0⟩, ⟨.cells [.ro (.ints .i64 ow) mw 1], 0⟩])
  | _, _ => none
theorem go (ot ow : List Int) (mt mw m : Nat) (os : List Int) :
  runFn Try.prog (orcW [⟨132, stableP.R⟩] []) hd0 Dr.std (some 0) 0 (bodyOf Try.f78) 9 [] [.own 0 0 m 0 1, .fn 79 [.ptr 1 0 0, .ptr 2 0 0]] [⟨.typ (.ints .i64 os), 0⟩, ⟨.cells [.ro (.ints .i64 ot) mt 1], 0⟩, ⟨.cells [.ro (.ints .i64 ow) mw 1], 0⟩]
  = (bif true && (true && (true && true)) then bif decide ((↑m : Int) = (↑m : Int) ∧ mt = ot.length ∧ mw = ow.length ∧ mw = mt ∧ m = os.length ∧ m ≤ (16 : Nat) ∧ (79 : FuncId) = (79 : FuncId)) && (so.sm.sp ow && (so.sm.sp ot && so.in.sp mt os)) && (true && (true && (true && (true && true)))) then some (AVal.tup [], [{ c := BC.typ (Cont.ints IntKind.i64 (so.sort.sv ow ot os)), ver := (0 : Nat) }, { c := BC.cells [AVal.ro (Cont.ints IntKind.i64 ot) mt (1 : Nat)], ver := (0 : Nat) }, { c := BC.cells [AVal.ro (Cont.ints IntKind.i64 ow) mw (1 : Nat)], ver := (0 : Nat) }]) else none else none) := by kernel_rfl
theorem run : ∀ args H v new, R args H = some (true, v, new) → ∃ fuel, runFn Try.prog (orcW [⟨132, stableP.R⟩] []) hd0 Dr.std (some 0) fuel (bodyOf Try.f78) 9 [] args H = some (v, new) := by
  intro args H v new h
  unfold R at h
  split at h
  · rename_i m ff os ot mt ow mw
    simp only [Option.some.injEq, Prod.mk.injEq, Bool.and_eq_true, decide_eq_true_eq] at h
    obtain ⟨⟨⟨h1, h2, h3, h4, h5, rfl⟩, hw, hv, hi⟩, rfl, rfl⟩ := h
    refine ⟨0, ?_⟩
    rw [go]
    simp -implicitDefEqProofs (disch := omega) only [hw, hv, hi, take_one, set_one, decide_eq_true, decide_eq_false, IntWalk.i64_in, beqT, beqF, bneT, bneF, nat_succ, ← Int.natCast_mul, ← Int.natCast_add, Int.toNat_natCast, Int.zero_mul, Int.zero_add, Int.add_zero, Nat.zero_add, Nat.add_zero, Nat.zero_mul, List.length_singleton, List.length_append, List.length_nil, List.length_cons, List.take_length, List.drop_zero, List.replicate_zero, List.take_nil, List.nil_append, Nat.reduceBEq, Nat.reduceMul, Nat.reduceLeDiff, eq_self, and_self, true_and, and_true, decide_true, decide_false, Bool.and_self, Bool.or_self, Bool.and_true, Bool.true_and, Bool.and_false, Bool.false_and, Bool.or_true, Bool.true_or, Bool.or_false, Bool.false_or, Bool.not_true, Bool.not_false, cond_true, cond_false]
  · cases h
theorem ok : EntWOk Try.prog ⟨78, R⟩ :=
  entw_ok mixed (A := (orcW [⟨132, stableP.R⟩] [])) (orcW_ok (by simp only [List.mem_cons, List.not_mem_nil, or_false, forall_eq_or_imp, forall_eq]; exact stableP.ok) (by simp)) Try.func78 (by kernel_rfl) (by kernel_rfl) (n := 9) (ts := []) (hd := hd0) (dr := Dr.std) (cut := (some 0)) (by kernel_rfl) (by kernel_rfl) (by kernel_rfl) run
end sortP

end Go.Proofs.Ytkoongajnnaeoaa.Ab
