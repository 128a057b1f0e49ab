/-
  Functions: sums, weights of sets, worths that are made.
-/
import Derived.Test.YtadcpdjcadnepaaFnVP
import Derived.Test.YtadcpdjcadnepaaFnWF
import Derived.Test.YtadcpdjcadnepaaFnZA
import Derived.Test.YtadcpdjcadnepaaFnB
namespace Go.Proofs.Ytadcpdjcadnepaa.Ab
open Go
set_option linter.unusedVariables false
set_option linter.unusedSimpArgs false
set_option maxRecDepth 100000

namespace sumS
def R : List AVal → Option (Bool × AVal × List Blk)
  | [.ro (.ints .i64 xs) m 1] => some (decide (m = xs.length ∧ m ≤ 100) && (xs.all fun x => decide (-1000000000000000 ≤ x) && decide (x ≤ 1000000000000000)), .int .i64 (wo.ss.sv xs xs.length), [])
  | _ => none
def hd : Nat → Head := fun _ => ⟨[3, 6, 7, 8], none⟩
noncomputable def L (f n : Nat) (s : State) := loopAt Try.prog (orc []) hd Dr.std 0 f (bodyOf Try.f59) 0 [true, true, false, true] (retK Try.prog [2] 0 none) n s
theorem start (xs : List Int) (f : Nat) :
  runFn Try.prog (orc []) hd Dr.std none f (bodyOf Try.f59) 17 [2] [.ro (.ints .i64 xs) xs.length 1] []
  = (L f f (mkS (17 : Nat) [((3 : Nat), AVal.int IntKind.i64 (0 : Int)), ((6 : Nat), AVal.ro (Cont.ints IntKind.i64 xs) xs.length (1 : Nat)), ((7 : Nat), AVal.int IntKind.i64 (↑xs.length : Int)), ((8 : Nat), AVal.int IntKind.i64 (0 : Int))] [])) := by kernel_rfl
theorem round (xs : List Int) (a l k : Int) (f n : Nat) :
  L f (n + 1) (mkS 17 [(3, .int .i64 a), (6, .ro (.ints .i64 xs) xs.length 1), (7, .int .i64 l), (8, .int .i64 k)] [])
  = (bif decide (k < l) then bif true && (decide ((0 : Int) ≤ k) && decide (k < (↑xs.length : Int))) then bif decide (k.toNat < xs.length) then L f n (mkS (17 : Nat) [((3 : Nat), AVal.int IntKind.i64 (IntKind.i64.wrap (a + gz xs k.toNat))), ((6 : Nat), AVal.ro (Cont.ints IntKind.i64 xs) xs.length (1 : Nat)), ((7 : Nat), AVal.int IntKind.i64 l), ((8 : Nat), AVal.int IntKind.i64 (IntKind.i64.wrap (k + (1 : Int))))] []) else none else none else some (AVal.int IntKind.i64 a, [])) := by kernel_rfl
theorem loop (xs : List Int) (f : Nat) (hl : xs.length ≤ 100) (hx : ∀ x ∈ xs, -1000000000000000 ≤ x ∧ x ≤ 1000000000000000) : ∀ (d k n : Nat), k + d = xs.length → d < n →
    L f n (mkS 17 [(3, .int .i64 (wo.ss.sv xs k)), (6, .ro (.ints .i64 xs) xs.length 1), (7, .int .i64 ((xs.length : Nat) : Int)), (8, .int .i64 ((k : Nat) : Int))] []) = some (.int .i64 (wo.ss.sv xs xs.length), []) := by
  intro d
  induction d with
  | zero =>
    intro k n hk hn
    obtain ⟨n, rfl⟩ : ∃ k, n = k + 1 := ⟨n - 1, by omega⟩
    obtain rfl : k = xs.length := by omega
    rw [round]
    simp -implicitDefEqProofs (disch := omega) only [take_one, set_one, decide_eq_true, decide_eq_false, IntWalk.i64_in, beqT, beqF, bneT, bneF, nat_succ, ← Int.natCast_mul, ← Int.natCast_add, Int.toNat_natCast, Int.zero_mul, Int.zero_add, Int.add_zero, Nat.zero_add, Nat.add_zero, Nat.zero_mul, List.length_singleton, List.length_append, List.length_nil, List.length_cons, List.take_length, List.drop_zero, List.replicate_zero, List.take_nil, List.nil_append, Nat.reduceBEq, Nat.reduceMul, Nat.reduceLeDiff, eq_self, and_self, true_and, and_true, decide_true, decide_false, Bool.and_self, Bool.or_self, Bool.and_true, Bool.true_and, Bool.and_false, Bool.false_and, Bool.or_true, Bool.true_or, Bool.or_false, Bool.false_or, Bool.not_true, Bool.not_false, cond_true, cond_false]
  | succ d ih =>
    intro k n hk hn
    obtain ⟨n, rfl⟩ : ∃ k, n = k + 1 := ⟨n - 1, by omega⟩
    have g := ih (k + 1) n (by omega) (by omega)
    have b := wo.ss_in hx (k + 1)
    simp only [wo.ss.sv] at b g
    rw [round]
    simp -implicitDefEqProofs (disch := omega) only [take_one, set_one, decide_eq_true, decide_eq_false, IntWalk.i64_in, beqT, beqF, bneT, bneF, nat_succ, ← Int.natCast_mul, ← Int.natCast_add, Int.toNat_natCast, Int.zero_mul, Int.zero_add, Int.add_zero, Nat.zero_add, Nat.add_zero, Nat.zero_mul, List.length_singleton, List.length_append, List.length_nil, List.length_cons, List.take_length, List.drop_zero, List.replicate_zero, List.take_nil, List.nil_append, Nat.reduceBEq, Nat.reduceMul, Nat.reduceLeDiff, eq_self, and_self, true_and, and_true, decide_true, decide_false, Bool.and_self, Bool.or_self, Bool.and_true, Bool.true_and, Bool.and_false, Bool.false_and, Bool.or_true, Bool.true_or, Bool.or_false, Bool.false_or, Bool.not_true, Bool.not_false, cond_true, cond_false]
    exact g
theorem run : ∀ args v new, R args = some (true, v, new) → ∃ fuel, runFn Try.prog (orc []) hd Dr.std none fuel (bodyOf Try.f59) 17 [2] args [] = some (v, new) := by
  intro args v new h
  unfold R at h
  split at h
  · rename_i xs m
    simp only [Option.some.injEq, Prod.mk.injEq, Bool.and_eq_true, decide_eq_true_eq, List.all_eq_true] at h
    obtain ⟨⟨⟨rfl, hl⟩, hx⟩, rfl, rfl⟩ := h
    refine ⟨xs.length + 1, ?_⟩
    have g := loop xs (xs.length + 1) hl hx xs.length 0 (xs.length + 1) (by omega) (by omega)
    rw [start]
    try simp -implicitDefEqProofs (disch := omega) only [take_one, set_one, decide_eq_true, decide_eq_false, IntWalk.i64_in, beqT, beqF, bneT, bneF, nat_succ, ← Int.natCast_mul, ← Int.natCast_add, Int.toNat_natCast, Int.zero_mul, Int.zero_add, Int.add_zero, Nat.zero_add, Nat.add_zero, Nat.zero_mul, List.length_singleton, List.length_append, List.length_nil, List.length_cons, List.take_length, List.drop_zero, List.replicate_zero, List.take_nil, List.nil_append, Nat.reduceBEq, Nat.reduceMul, Nat.reduceLeDiff, eq_self, and_self, true_and, and_true, decide_true, decide_false, Bool.and_self, Bool.or_self, Bool.and_true, Bool.true_and, Bool.and_false, Bool.false_and, Bool.or_true, Bool.true_or, Bool.or_false, Bool.false_or, Bool.not_true, Bool.not_false, cond_true, cond_false]
    exact g
  · cases h
theorem ok : EntOk Try.prog ⟨59, R⟩ :=
  ent_okA mixed (A := (orc [])) (orc_ok (by simp)) Try.func59 (by kernel_rfl) (by kernel_rfl) (n := 17) (ts := [2]) (hd := hd) (dr := Dr.std) (cut := none) (by kernel_rfl) (by kernel_rfl) (by kernel_rfl) run
end sumS

namespace weigh
def R : List AVal → Option (Bool × AVal × List Blk)
  | [.ro (.ints .i64 xs) m 1, .int .i64 s] => some (decide (m = xs.length ∧ m ≤ 6 ∧ 0 ≤ s ∧ s < 64) && (xs.all fun x => decide (0 ≤ x) && decide (x ≤ 1000)), .int .i64 (vo.wg.sv xs s.toNat xs.length), [])
  | _ => none
def hd : Nat → Head := fun _ => ⟨[1, 5, 8, 9, 10], none⟩
noncomputable def L (f n : Nat) (s : State) := loopAt Try.prog (orc []) hd Dr.std 0 f (bodyOf Try.f101) 0 [true, true, false, true] (retK Try.prog [4] 0 none) n s
theorem start (xs : List Int) (s : Int) (f : Nat) :
  runFn Try.prog (orc []) hd Dr.std none f (bodyOf Try.f101) 25 [4] [.ro (.ints .i64 xs) xs.length 1, .int .i64 s] []
  = (L f f (mkS (25 : Nat) [((1 : Nat), AVal.int IntKind.i64 s), ((5 : Nat), AVal.int IntKind.i64 (0 : Int)), ((8 : Nat), AVal.ro (Cont.ints IntKind.i64 xs) xs.length (1 : Nat)), ((9 : Nat), AVal.int IntKind.i64 (↑xs.length : Int)), ((10 : Nat), AVal.int IntKind.i64 (0 : Int))] [])) := by kernel_rfl
theorem round (xs : List Int) (s a l k : Int) (f n : Nat) :
  L f (n + 1) (mkS 25 [(1, .int .i64 s), (5, .int .i64 a), (8, .ro (.ints .i64 xs) xs.length 1), (9, .int .i64 l), (10, .int .i64 k)] [])
  = (bif decide (k < l) then bif true && (decide ((0 : Int) ≤ k) && decide (k < (↑xs.length : Int))) then bif decide (k.toNat < xs.length) then bif decide ((0 : Int) ≤ k) then bif iand.sv IntKind.i64 (ishr.sv IntKind.i64 s k) (1 : Int) == (1 : Int) then L f n (mkS (25 : Nat) [((1 : Nat), AVal.int IntKind.i64 s), ((5 : Nat), AVal.int IntKind.i64 (IntKind.i64.wrap (a + gz xs k.toNat))), ((8 : Nat), AVal.ro (Cont.ints IntKind.i64 xs) xs.length (1 : Nat)), ((9 : Nat), AVal.int IntKind.i64 l), ((10 : Nat), AVal.int IntKind.i64 (IntKind.i64.wrap (k + (1 : Int))))] []) else L f n (mkS (25 : Nat) [((1 : Nat), AVal.int IntKind.i64 s), ((5 : Nat), AVal.int IntKind.i64 a), ((8 : Nat), AVal.ro (Cont.ints IntKind.i64 xs) xs.length (1 : Nat)), ((9 : Nat), AVal.int IntKind.i64 l), ((10 : Nat), AVal.int IntKind.i64 (IntKind.i64.wrap (k + (1 : Int))))] []) else none else none else none else some (AVal.int IntKind.i64 a, [])) := by kernel_rfl
theorem loop (xs : List Int) (s f : Nat) (hl : xs.length ≤ 6) (hs : s < 64) (hx : ∀ x ∈ xs, 0 ≤ x ∧ x ≤ 1000) : ∀ (d k n : Nat), k + d = xs.length → d < n →
    L f n (mkS 25 [(1, .int .i64 ((s : Nat) : Int)), (5, .int .i64 (vo.wg.sv xs s k)), (8, .ro (.ints .i64 xs) xs.length 1), (9, .int .i64 ((xs.length : Nat) : Int)), (10, .int .i64 ((k : Nat) : Int))] []) = some (.int .i64 (vo.wg.sv xs s xs.length), []) := by
  intro d
  induction d with
  | zero =>
    intro k n hk hn
    obtain ⟨n, rfl⟩ : ∃ k, n = k + 1 := ⟨n - 1, by omega⟩
    obtain rfl : k = xs.length := by omega
    rw [round]
    simp -implicitDefEqProofs (disch := omega) only [take_one, set_one, decide_eq_true, decide_eq_false, IntWalk.i64_in, beqT, beqF, bneT, bneF, nat_succ, ← Int.natCast_mul, ← Int.natCast_add, Int.toNat_natCast, Int.zero_mul, Int.zero_add, Int.add_zero, Nat.zero_add, Nat.add_zero, Nat.zero_mul, List.length_singleton, List.length_append, List.length_nil, List.length_cons, List.take_length, List.drop_zero, List.replicate_zero, List.take_nil, List.nil_append, Nat.reduceBEq, Nat.reduceMul, Nat.reduceLeDiff, eq_self, and_self, true_and, and_true, decide_true, decide_false, Bool.and_self, Bool.or_self, Bool.and_true, Bool.true_and, Bool.and_false, Bool.false_and, Bool.or_true, Bool.true_or, Bool.or_false, Bool.false_or, Bool.not_true, Bool.not_false, cond_true, cond_false]
  | succ d ih =>
    intro k n hk hn
    obtain ⟨n, rfl⟩ : ∃ k, n = k + 1 := ⟨n - 1, by omega⟩
    have g := ih (k + 1) n (by omega) (by omega)
    have b := vo.wg_in hx s (k + 1)
    simp only [vo.wg.sv] at b g
    rw [round]
    cases ho : wo.off.sp s k with
    | false =>
      have s1 := vo.shr_f (by omega) (by omega) ho
      rw [ho, cond_false] at g b
      simp -implicitDefEqProofs (disch := omega) only [s1, take_one, set_one, decide_eq_true, decide_eq_false, IntWalk.i64_in, beqT, beqF, bneT, bneF, nat_succ, ← Int.natCast_mul, ← Int.natCast_add, Int.toNat_natCast, Int.zero_mul, Int.zero_add, Int.add_zero, Nat.zero_add, Nat.add_zero, Nat.zero_mul, List.length_singleton, List.length_append, List.length_nil, List.length_cons, List.take_length, List.drop_zero, List.replicate_zero, List.take_nil, List.nil_append, Nat.reduceBEq, Nat.reduceMul, Nat.reduceLeDiff, eq_self, and_self, true_and, and_true, decide_true, decide_false, Bool.and_self, Bool.or_self, Bool.and_true, Bool.true_and, Bool.and_false, Bool.false_and, Bool.or_true, Bool.true_or, Bool.or_false, Bool.false_or, Bool.not_true, Bool.not_false, cond_true, cond_false]
      exact g
    | true =>
      have s1 := vo.shr_t (by omega) (by omega) ho
      rw [ho, cond_true] at g
      simp -implicitDefEqProofs (disch := omega) only [s1, take_one, set_one, decide_eq_true, decide_eq_false, IntWalk.i64_in, beqT, beqF, bneT, bneF, nat_succ, ← Int.natCast_mul, ← Int.natCast_add, Int.toNat_natCast, Int.zero_mul, Int.zero_add, Int.add_zero, Nat.zero_add, Nat.add_zero, Nat.zero_mul, List.length_singleton, List.length_append, List.length_nil, List.length_cons, List.take_length, List.drop_zero, List.replicate_zero, List.take_nil, List.nil_append, Nat.reduceBEq, Nat.reduceMul, Nat.reduceLeDiff, eq_self, and_self, true_and, and_true, decide_true, decide_false, Bool.and_self, Bool.or_self, Bool.and_true, Bool.true_and, Bool.and_false, Bool.false_and, Bool.or_true, Bool.true_or, Bool.or_false, Bool.false_or, Bool.not_true, Bool.not_false, cond_true, cond_false]
      exact g
theorem run : ∀ args v new, R args = some (true, v, new) → ∃ fuel, runFn Try.prog (orc []) hd Dr.std none fuel (bodyOf Try.f101) 25 [4] args [] = some (v, new) := by
  intro args v new h
  unfold R at h
  split at h
  · rename_i xs m s
    simp only [Option.some.injEq, Prod.mk.injEq, Bool.and_eq_true, decide_eq_true_eq, List.all_eq_true] at h
    obtain ⟨⟨⟨rfl, hl, h3, h4⟩, hx⟩, rfl, rfl⟩ := h
    obtain ⟨s, rfl⟩ : ∃ q : Nat, s = q := ⟨s.toNat, by omega⟩
    refine ⟨xs.length + 1, ?_⟩
    have g := loop xs s (xs.length + 1) hl (by omega) hx xs.length 0 (xs.length + 1) (by omega) (by omega)
    rw [start]
    try simp -implicitDefEqProofs (disch := omega) only [take_one, set_one, decide_eq_true, decide_eq_false, IntWalk.i64_in, beqT, beqF, bneT, bneF, nat_succ, ← Int.natCast_mul, ← Int.natCast_add, Int.toNat_natCast, Int.zero_mul, Int.zero_add, Int.add_zero, Nat.zero_add, Nat.add_zero, Nat.zero_mul, List.length_singleton, List.length_append, List.length_nil, List.length_cons, List.take_length, List.drop_zero, List.replicate_zero, List.take_nil, List.nil_append, Nat.reduceBEq, Nat.reduceMul, Nat.reduceLeDiff, eq_self, and_self, true_and, and_true, decide_true, decide_false, Bool.and_self, Bool.or_self, Bool.and_true, Bool.true_and, Bool.and_false, Bool.false_and, Bool.or_true, Bool.true_or, Bool.or_false, Bool.false_or, Bool.not_true, Bool.not_false, cond_true, cond_false]
    exact g
  · cases h
theorem ok : EntOk Try.prog ⟨101, R⟩ :=
  ent_okA mixed (A := (orc [])) (orc_ok (by simp)) Try.func101 (by kernel_rfl) (by kernel_rfl) (n := 25) (ts := [4]) (hd := hd) (dr := Dr.std) (cut := none) (by kernel_rfl) (by kernel_rfl) (by kernel_rfl) run
end weigh

namespace cloVote
def dr : Nat → Dr := fun i => bif eqN i 1 then ⟨some [0, 1, 3, 2, 4], false⟩ else ⟨none, false⟩
def R : List AVal → Option (Bool × AVal × List Blk)
  | [.int .i64 s, .rom [.ro (.ints .i64 xs) m 1] 0, .rom [.int .i64 q] 0] => some (decide (m = xs.length ∧ m ≤ 6 ∧ 0 ≤ s ∧ s < 64) && (xs.all fun x => decide (0 ≤ x) && decide (x ≤ 1000)), .int .i64 (vo.w.sv q xs s.toNat), [])
  | _ => none
theorem go (xs : List Int) (s q : Int) :
  runFn Try.prog (orc [⟨101, weigh.R⟩]) hd0 dr none 0 (bodyOf Try.f100) 10 [4] [.int .i64 s, .rom [.ro (.ints .i64 xs) xs.length 1] 0, .rom [.int .i64 q] 0] []
  = (bif (decide (xs.length = xs.length ∧ xs.length ≤ (6 : Nat) ∧ (0 : Int) ≤ s ∧ s < (64 : Int)) && xs.all fun x => decide ((0 : Int) ≤ x) && decide (x ≤ (1000 : Int))) && (true && (true && true) || true && true) then bif decide (q ≤ vo.wg.sv xs s.toNat xs.length) then some (AVal.int IntKind.i64 (1 : Int), []) else some (AVal.int IntKind.i64 (0 : Int), []) else none) := by kernel_rfl
theorem run : ∀ args v new, R args = some (true, v, new) → ∃ fuel, runFn Try.prog (orc [⟨101, weigh.R⟩]) hd0 dr none fuel (bodyOf Try.f100) 10 [4] args [] = some (v, new) := by
  intro args v new h
  unfold R at h
  split at h
  · rename_i s xs m q
    simp only [Option.some.injEq, Prod.mk.injEq, Bool.and_eq_true, decide_eq_true_eq] at h
    obtain ⟨⟨⟨rfl, hl, h3, h4⟩, hx⟩, rfl, rfl⟩ := h
    refine ⟨0, ?_⟩
    rw [go]
    simp -implicitDefEqProofs (disch := omega) only [hx, take_one, set_one, decide_eq_true, decide_eq_false, IntWalk.i64_in, beqT, beqF, bneT, bneF, nat_succ, ← Int.natCast_mul, ← Int.natCast_add, Int.toNat_natCast, Int.zero_mul, Int.zero_add, Int.add_zero, Nat.zero_add, Nat.add_zero, Nat.zero_mul, List.length_singleton, List.length_append, List.length_nil, List.length_cons, List.take_length, List.drop_zero, List.replicate_zero, List.take_nil, List.nil_append, Nat.reduceBEq, Nat.reduceMul, Nat.reduceLeDiff, eq_self, and_self, true_and, and_true, decide_true, decide_false, Bool.and_self, Bool.or_self, Bool.and_true, Bool.true_and, Bool.and_false, Bool.false_and, Bool.or_true, Bool.true_or, Bool.or_false, Bool.false_or, Bool.not_true, Bool.not_false, cond_true, cond_false]
    rw [vo.w.sv]
    cases decide (q ≤ vo.wg.sv xs s.toNat xs.length) <;> rfl
  · cases h
theorem ok : EntOk Try.prog ⟨100, R⟩ :=
  ent_okA mixed (A := (orc [⟨101, weigh.R⟩])) (orc_ok (by simp only [List.mem_cons, List.not_mem_nil, or_false, forall_eq_or_imp, forall_eq]; exact weigh.ok)) Try.func100 (by kernel_rfl) (by kernel_rfl) (n := 10) (ts := [4]) (hd := hd0) (dr := dr) (cut := none) (by kernel_rfl) (by kernel_rfl) (by kernel_rfl) run
end cloVote

namespace cloRun
def R : List AVal → Option (Bool × AVal × List Blk)
  | [.int .i64 s, .rom [.ro (.ints .i64 xs) m 1] 0] => some (decide (m = xs.length ∧ m ≤ 6 ∧ 0 ≤ s ∧ s < 64) && (xs.all fun x => decide (0 ≤ x) && decide (x ≤ 10000)), .int .i64 (vo.m.sv xs s.toNat), [])
  | _ => none
def hd : Nat → Head := fun _ => ⟨[0, 4, 7, 8, 9], none⟩
noncomputable def L (f n : Nat) (s : State) := loopAt Try.prog (orc []) hd Dr.std 0 f (bodyOf Try.f106) 0 [true, true, false, true] (retK Try.prog [3] 0 none) n s
theorem start (xs : List Int) (s : Int) (f : Nat) :
  runFn Try.prog (orc []) hd Dr.std none f (bodyOf Try.f106) 24 [3] [.int .i64 s, .rom [.ro (.ints .i64 xs) xs.length 1] 0] []
  = (L f f (mkS (24 : Nat) [((0 : Nat), AVal.int IntKind.i64 s), ((4 : Nat), AVal.int IntKind.i64 (0 : Int)), ((7 : Nat), AVal.ro (Cont.ints IntKind.i64 xs) xs.length (1 : Nat)), ((8 : Nat), AVal.int IntKind.i64 (↑xs.length : Int)), ((9 : Nat), AVal.int IntKind.i64 (0 : Int))] [])) := by kernel_rfl
theorem round (xs : List Int) (s a l k : Int) (f n : Nat) :
  L f (n + 1) (mkS 24 [(0, .int .i64 s), (4, .int .i64 a), (7, .ro (.ints .i64 xs) xs.length 1), (8, .int .i64 l), (9, .int .i64 k)] [])
  = (bif decide (k < l) then bif true && (decide ((0 : Int) ≤ k) && decide (k < (↑xs.length : Int))) then bif decide (k.toNat < xs.length) then bif decide ((0 : Int) ≤ k) then bif iand.sv IntKind.i64 (ishr.sv IntKind.i64 s k) (1 : Int) == (1 : Int) then L f n (mkS (24 : Nat) [((0 : Nat), AVal.int IntKind.i64 s), ((4 : Nat), AVal.int IntKind.i64 (if a < gz xs k.toNat then gz xs k.toNat else a)), ((7 : Nat), AVal.ro (Cont.ints IntKind.i64 xs) xs.length (1 : Nat)), ((8 : Nat), AVal.int IntKind.i64 l), ((9 : Nat), AVal.int IntKind.i64 (IntKind.i64.wrap (k + (1 : Int))))] []) else L f n (mkS (24 : Nat) [((0 : Nat), AVal.int IntKind.i64 s), ((4 : Nat), AVal.int IntKind.i64 a), ((7 : Nat), AVal.ro (Cont.ints IntKind.i64 xs) xs.length (1 : Nat)), ((8 : Nat), AVal.int IntKind.i64 l), ((9 : Nat), AVal.int IntKind.i64 (IntKind.i64.wrap (k + (1 : Int))))] []) else none else none else none else some (AVal.int IntKind.i64 a, [])) := by kernel_rfl
theorem loop (xs : List Int) (s f : Nat) (hl : xs.length ≤ 6) (hs : s < 64) (hx : ∀ x ∈ xs, 0 ≤ x ∧ x ≤ 10000) : ∀ (d k n : Nat), k + d = xs.length → d < n →
    L f n (mkS 24 [(0, .int .i64 ((s : Nat) : Int)), (4, .int .i64 (vo.mx.sv xs s k)), (7, .ro (.ints .i64 xs) xs.length 1), (8, .int .i64 ((xs.length : Nat) : Int)), (9, .int .i64 ((k : Nat) : Int))] []) = some (.int .i64 (vo.mx.sv xs s xs.length), []) := by
  intro d
  induction d with
  | zero =>
    intro k n hk hn
    obtain ⟨n, rfl⟩ : ∃ k, n = k + 1 := ⟨n - 1, by omega⟩
    obtain rfl : k = xs.length := by omega
    rw [round]
    simp -implicitDefEqProofs (disch := omega) only [take_one, set_one, decide_eq_true, decide_eq_false, IntWalk.i64_in, beqT, beqF, bneT, bneF, nat_succ, ← Int.natCast_mul, ← Int.natCast_add, Int.toNat_natCast, Int.zero_mul, Int.zero_add, Int.add_zero, Nat.zero_add, Nat.add_zero, Nat.zero_mul, List.length_singleton, List.length_append, List.length_nil, List.length_cons, List.take_length, List.drop_zero, List.replicate_zero, List.take_nil, List.nil_append, Nat.reduceBEq, Nat.reduceMul, Nat.reduceLeDiff, eq_self, and_self, true_and, and_true, decide_true, decide_false, Bool.and_self, Bool.or_self, Bool.and_true, Bool.true_and, Bool.and_false, Bool.false_and, Bool.or_true, Bool.true_or, Bool.or_false, Bool.false_or, Bool.not_true, Bool.not_false, cond_true, cond_false]
  | succ d ih =>
    intro k n hk hn
    obtain ⟨n, rfl⟩ : ∃ k, n = k + 1 := ⟨n - 1, by omega⟩
    have g := ih (k + 1) n (by omega) (by omega)
    have b := vo.mx_in hx s (k + 1)
    simp only [vo.mx.sv] at b g
    rw [round]
    cases ho : wo.off.sp s k with
    | false =>
      have s1 := vo.shr_f (by omega) (by omega) ho
      rw [ho, cond_false] at g b
      simp -implicitDefEqProofs (disch := omega) only [s1, take_one, set_one, decide_eq_true, decide_eq_false, IntWalk.i64_in, beqT, beqF, bneT, bneF, nat_succ, ← Int.natCast_mul, ← Int.natCast_add, Int.toNat_natCast, Int.zero_mul, Int.zero_add, Int.add_zero, Nat.zero_add, Nat.add_zero, Nat.zero_mul, List.length_singleton, List.length_append, List.length_nil, List.length_cons, List.take_length, List.drop_zero, List.replicate_zero, List.take_nil, List.nil_append, Nat.reduceBEq, Nat.reduceMul, Nat.reduceLeDiff, eq_self, and_self, true_and, and_true, decide_true, decide_false, Bool.and_self, Bool.or_self, Bool.and_true, Bool.true_and, Bool.and_false, Bool.false_and, Bool.or_true, Bool.true_or, Bool.or_false, Bool.false_or, Bool.not_true, Bool.not_false, cond_true, cond_false]
      exact g
    | true =>
      have s1 := vo.shr_t (by omega) (by omega) ho
      rw [ho, cond_true] at g
      simp -implicitDefEqProofs (disch := omega) only [s1, take_one, set_one, decide_eq_true, decide_eq_false, IntWalk.i64_in, beqT, beqF, bneT, bneF, nat_succ, ← Int.natCast_mul, ← Int.natCast_add, Int.toNat_natCast, Int.zero_mul, Int.zero_add, Int.add_zero, Nat.zero_add, Nat.add_zero, Nat.zero_mul, List.length_singleton, List.length_append, List.length_nil, List.length_cons, List.take_length, List.drop_zero, List.replicate_zero, List.take_nil, List.nil_append, Nat.reduceBEq, Nat.reduceMul, Nat.reduceLeDiff, eq_self, and_self, true_and, and_true, decide_true, decide_false, Bool.and_self, Bool.or_self, Bool.and_true, Bool.true_and, Bool.and_false, Bool.false_and, Bool.or_true, Bool.true_or, Bool.or_false, Bool.false_or, Bool.not_true, Bool.not_false, cond_true, cond_false]
      exact g
theorem run : ∀ args v new, R args = some (true, v, new) → ∃ fuel, runFn Try.prog (orc []) hd Dr.std none fuel (bodyOf Try.f106) 24 [3] args [] = some (v, new) := by
  intro args v new h
  unfold R at h
  split at h
  · rename_i s xs m
    simp only [Option.some.injEq, Prod.mk.injEq, Bool.and_eq_true, decide_eq_true_eq, List.all_eq_true] at h
    obtain ⟨⟨⟨rfl, hl, h3, h4⟩, hx⟩, rfl, rfl⟩ := h
    obtain ⟨s, rfl⟩ : ∃ q : Nat, s = q := ⟨s.toNat, by omega⟩
    refine ⟨xs.length + 1, ?_⟩
    have g := loop xs s (xs.length + 1) hl (by omega) hx xs.length 0 (xs.length + 1) (by omega) (by omega)
    rw [start]
    try simp -implicitDefEqProofs (disch := omega) only [take_one, set_one, decide_eq_true, decide_eq_false, IntWalk.i64_in, beqT, beqF, bneT, bneF, nat_succ, ← Int.natCast_mul, ← Int.natCast_add, Int.toNat_natCast, Int.zero_mul, Int.zero_add, Int.add_zero, Nat.zero_add, Nat.add_zero, Nat.zero_mul, List.length_singleton, List.length_append, List.length_nil, List.length_cons, List.take_length, List.drop_zero, List.replicate_zero, List.take_nil, List.nil_append, Nat.reduceBEq, Nat.reduceMul, Nat.reduceLeDiff, eq_self, and_self, true_and, and_true, decide_true, decide_false, Bool.and_self, Bool.or_self, Bool.and_true, Bool.true_and, Bool.and_false, Bool.false_and, Bool.or_true, Bool.true_or, Bool.or_false, Bool.false_or, Bool.not_true, Bool.not_false, cond_true, cond_false]
    exact g
  · cases h
theorem ok : EntOk Try.prog ⟨106, R⟩ :=
  ent_okA mixed (A := (orc [])) (orc_ok (by simp)) Try.func106 (by kernel_rfl) (by kernel_rfl) (n := 24) (ts := [3]) (hd := hd) (dr := Dr.std) (cut := none) (by kernel_rfl) (by kernel_rfl) (by kernel_rfl) run
end cloRun

namespace madeVote
def R : List AVal → Option (Bool × AVal × List Blk)
  | [.int .i64 p, .fn ff [.rom [.ro (.ints .i64 xs) m 1] 0, .rom [.int .i64 qu] 0]] => some (decide (1 ≤ p ∧ p ≤ 6 ∧ ff = 100 ∧ m = xs.length ∧ m ≤ 6) && ((xs.all fun x => decide (0 ≤ x) && decide (x ≤ 1000)) && wo.sp p (fs.ls.sv (vo.w.sv qu xs) (2 ^ p.toNat))), .tup [.agg [.int .i64 p, .own 0 0 (2 ^ p.toNat) 0 1], .bool true], [⟨.typ (.ints .i64 (fs.ls.sv (vo.w.sv qu xs) (2 ^ p.toNat))), 0⟩])
  | _ => none
def hd : Nat → Head := fun _ => ⟨[1, 4, 6, 11, 12, 998], none⟩
noncomputable def L (f n : Nat) (s : State) := loopAt Try.prog (orc [⟨100, cloVote.R⟩, ⟨72, iValidWorths.R⟩]) hd Dr.std 0 f (bodyOf Try.f99) 0 [true, true, false, true] (retK Try.prog [.cell 4 41, 5] 0 none) n s
theorem start (xs : List Int) (qu : Int) (p : Int) (f : Nat) :
  runFn Try.prog (orc [⟨100, cloVote.R⟩, ⟨72, iValidWorths.R⟩]) hd Dr.std none f (bodyOf Try.f99) 29 [.cell 4 41, 5] [.int .i64 p, .fn 100 [.rom [.ro (.ints .i64 xs) xs.length 1] 0, .rom [.int .i64 qu] 0]] []
  = (bif decide ((0 : Int) ≤ p) then L f f (mkS (29 : Nat) [((1 : Nat), AVal.fn (100 : Nat) [AVal.rom [AVal.ro (Cont.ints IntKind.i64 xs) xs.length (1 : Nat)] (0 : Nat), AVal.rom [AVal.int IntKind.i64 qu] (0 : Nat)]), ((4 : Nat), AVal.ptr (0 : Nat) (0 : Nat) (0 : Nat)), ((6 : Nat), AVal.ptr (1 : Nat) (0 : Nat) (0 : Nat)), ((11 : Nat), AVal.int IntKind.i64 (ishl.sv IntKind.i64 (1 : Int) p)), ((12 : Nat), AVal.int IntKind.i64 (0 : Int))] [{ c := BC.cells [AVal.int IntKind.i64 (0 : Int), AVal.nils], ver := (0 : Nat) }, { c := BC.cells [AVal.int IntKind.i64 p, AVal.nils], ver := (0 : Nat) }]) else none) := by kernel_rfl
theorem round0 (xs : List Int) (qu : Int) (p l k : Int) (f n : Nat) :
  L f (n + 1) (mkS 29 [(1, .fn 100 [.rom [.ro (.ints .i64 xs) xs.length 1] 0, .rom [.int .i64 qu] 0]), (4, .ptr 0 0 0), (6, .ptr 1 0 0), (11, .int .i64 l), (12, .int .i64 k)] [⟨.cells [.int .i64 0, .nils], 0⟩, ⟨.cells [.int .i64 p, .nils], 0⟩])
  = (bif decide (k < l) then bif true && true then bif (decide (xs.length = xs.length ∧ xs.length ≤ (6 : Nat) ∧ (0 : Int) ≤ k ∧ k < (64 : Int)) && xs.all fun x => decide ((0 : Int) ≤ x) && decide (x ≤ (1000 : Int))) && (true && (true && true && (true && true && true)) || true && true) then bif (1 : Nat) == (1 : Nat) && (1 : Nat) == (1 : Nat) && (true && true && (decide ((0 : Nat) < (List.take (1 : Nat) (List.drop (0 : Nat) ((List.replicate (1 : Nat) (0 : Int)).set (0 : Nat) (vo.w.sv qu xs k.toNat)))).length) && (decide ((List.take (1 : Nat) (List.drop (0 : Nat) ((List.replicate (1 : Nat) (0 : Int)).set (0 : Nat) (vo.w.sv qu xs k.toNat)))).length ≤ (4611686018427387904 : Nat)) && decide ((List.take (1 : Nat) (List.drop (0 : Nat) ((List.replicate (1 : Nat) (0 : Int)).set (0 : Nat) (vo.w.sv qu xs k.toNat)))).length * (8 : Nat) ≤ (140737488355328 : Nat))))) then L f n (mkS (29 : Nat) [((1 : Nat), AVal.fn (100 : Nat) [AVal.rom [AVal.ro (Cont.ints IntKind.i64 xs) xs.length (1 : Nat)] (0 : Nat), AVal.rom [AVal.int IntKind.i64 qu] (0 : Nat)]), ((4 : Nat), AVal.ptr (0 : Nat) (0 : Nat) (0 : Nat)), ((6 : Nat), AVal.ptr (1 : Nat) (0 : Nat) (0 : Nat)), ((11 : Nat), AVal.int IntKind.i64 l), ((12 : Nat), AVal.int IntKind.i64 (IntKind.i64.wrap (k + (1 : Int))))] [{ c := BC.cells [AVal.int IntKind.i64 (0 : Int), AVal.nils], ver := (0 : Nat) }, { c := BC.cells [AVal.int IntKind.i64 p, AVal.own (2 : Nat) (0 : Nat) (List.take (1 : Nat) (List.drop (0 : Nat) ((List.replicate (1 : Nat) (0 : Int)).set (0 : Nat) (vo.w.sv qu xs k.toNat)))).length (0 : Nat) (1 : Nat)], ver := (0 : Nat) }, { c := BC.typ (Cont.ints IntKind.i64 (List.take (1 : Nat) (List.drop (0 : Nat) ((List.replicate (1 : Nat) (0 : Int)).set (0 : Nat) (vo.w.sv qu xs k.toNat))))), ver := (0 : Nat) }]) else none else none else none else bif true && true && (true && true && true) then none else none) := by kernel_rfl
theorem round (xs : List Int) (qu : Int) (p l k : Int) (os : List Int) (q f n : Nat) :
  L f (n + 1) (mkS 29 [(1, .fn 100 [.rom [.ro (.ints .i64 xs) xs.length 1] 0, .rom [.int .i64 qu] 0]), (4, .ptr 0 0 0), (6, .ptr 1 0 0), (11, .int .i64 l), (12, .int .i64 k)] [⟨.cells [.int .i64 0, .nils], 0⟩, ⟨.cells [.int .i64 p, .own 2 0 q 0 1], 0⟩, ⟨.typ (.ints .i64 os), 0⟩])
  = (bif decide (k < l) then bif true && true then bif (decide (xs.length = xs.length ∧ xs.length ≤ (6 : Nat) ∧ (0 : Int) ≤ k ∧ k < (64 : Int)) && xs.all fun x => decide ((0 : Int) ≤ x) && decide (x ≤ (1000 : Int))) && (true && (true && true && (true && true && true)) || true && true) then bif (1 : Nat) == (1 : Nat) && (1 : Nat) == (1 : Nat) && (true && (true && true) && (true && true && (decide (q + (List.take (1 : Nat) (List.drop (0 : Nat) ((List.replicate (1 : Nat) (0 : Int)).set (0 : Nat) (vo.w.sv qu xs k.toNat)))).length ≤ (4611686018427387904 : Nat)) && decide ((q + (List.take (1 : Nat) (List.drop (0 : Nat) ((List.replicate (1 : Nat) (0 : Int)).set (0 : Nat) (vo.w.sv qu xs k.toNat)))).length) * (8 : Nat) ≤ (140737488355328 : Nat))))) then L f n (mkS (29 : Nat) [((1 : Nat), AVal.fn (100 : Nat) [AVal.rom [AVal.ro (Cont.ints IntKind.i64 xs) xs.length (1 : Nat)] (0 : Nat), AVal.rom [AVal.int IntKind.i64 qu] (0 : Nat)]), ((4 : Nat), AVal.ptr (0 : Nat) (0 : Nat) (0 : Nat)), ((6 : Nat), AVal.ptr (1 : Nat) (0 : Nat) (0 : Nat)), ((11 : Nat), AVal.int IntKind.i64 l), ((12 : Nat), AVal.int IntKind.i64 (IntKind.i64.wrap (k + (1 : Int))))] [{ c := BC.cells [AVal.int IntKind.i64 (0 : Int), AVal.nils], ver := (0 : Nat) }, { c := BC.cells [AVal.int IntKind.i64 p, AVal.own (2 : Nat) (0 : Nat) (q + (List.take (1 : Nat) (List.drop (0 : Nat) ((List.replicate (1 : Nat) (0 : Int)).set (0 : Nat) (vo.w.sv qu xs k.toNat)))).length) (0 : Nat) (1 : Nat)], ver := (0 : Nat) }, { c := BC.typ (Cont.ints IntKind.i64 (List.take q os ++ List.take (1 : Nat) (List.drop (0 : Nat) ((List.replicate (1 : Nat) (0 : Int)).set (0 : Nat) (vo.w.sv qu xs k.toNat))))), ver := (0 : Nat) }]) else none else none else none else bif true && true && (true && true && true) then bif decide (q = os.length) && wo.sp p os && (true && (false && true) && true || true && true) then bif true && true && (true && true && true) then bif true && true && (true && true && true) && true then some (AVal.tup [AVal.agg [AVal.int IntKind.i64 p, AVal.own (2 : Nat) (0 : Nat) q (0 : Nat) (1 : Nat)], AVal.bool true], [{ c := BC.cells [AVal.int IntKind.i64 p, AVal.own (2 : Nat) (0 : Nat) q (0 : Nat) (1 : Nat)], ver := (0 : Nat) }, { c := BC.cells [AVal.int IntKind.i64 p, AVal.own (2 : Nat) (0 : Nat) q (0 : Nat) (1 : Nat)], ver := (0 : Nat) }, { c := BC.typ (Cont.ints IntKind.i64 os), ver := (0 : Nat) }]) else none else none else none else none) := by kernel_rfl
theorem loop (xs : List Int) (qu : Int) (p f : Nat) (hp : 1 ≤ p ∧ p ≤ 6) (hm : xs.length ≤ 6) (hx : (xs.all fun x => decide (0 ≤ x) && decide (x ≤ 1000)) = true) (hs : wo.sp (p : Int) (fs.ls.sv (vo.w.sv qu xs) (2 ^ p)) = true) : ∀ (d k n : Nat), k + d = 2 ^ p - 1 → d < n →
    regc [2] (L f n (mkS 29 [(1, .fn 100 [.rom [.ro (.ints .i64 xs) xs.length 1] 0, .rom [.int .i64 qu] 0]), (4, .ptr 0 0 0), (6, .ptr 1 0 0), (11, .int .i64 ((2 ^ p : Nat) : Int)), (12, .int .i64 ((k + 1 : Nat) : Int))] [⟨.cells [.int .i64 0, .nils], 0⟩, ⟨.cells [.int .i64 ((p : Nat) : Int), .own 2 0 (k + 1) 0 1], 0⟩, ⟨.typ (.ints .i64 (fs.ls.sv (vo.w.sv qu xs) (k + 1))), 0⟩])) = some (.tup [.agg [.int .i64 ((p : Nat) : Int), .own 0 0 (2 ^ p) 0 1], .bool true], [⟨.typ (.ints .i64 (fs.ls.sv (vo.w.sv qu xs) (2 ^ p))), 0⟩]) := by
  intro d
  induction d with
  | zero =>
    intro k n hk hn
    obtain ⟨n, rfl⟩ : ∃ k, n = k + 1 := ⟨n - 1, by omega⟩
    obtain rfl : k = 2 ^ p - 1 := by omega
    have hpp := wo.pow_pos p
    have hl := fs.ls_length (vo.w.sv qu xs) (2 ^ p - 1 + 1)
    have e : 2 ^ p - 1 + 1 = 2 ^ p := by omega
    rw [e] at hl ⊢
    rw [round]
    simp -implicitDefEqProofs (disch := omega) only [hs, hl, take_one, set_one, decide_eq_true, decide_eq_false, IntWalk.i64_in, beqT, beqF, bneT, bneF, nat_succ, ← Int.natCast_mul, ← Int.natCast_add, Int.toNat_natCast, Int.zero_mul, Int.zero_add, Int.add_zero, Nat.zero_add, Nat.add_zero, Nat.zero_mul, List.length_singleton, List.length_append, List.length_nil, List.length_cons, List.take_length, List.drop_zero, List.replicate_zero, List.take_nil, List.nil_append, Nat.reduceBEq, Nat.reduceMul, Nat.reduceLeDiff, eq_self, and_self, true_and, and_true, decide_true, decide_false, Bool.and_self, Bool.or_self, Bool.and_true, Bool.true_and, Bool.and_false, Bool.false_and, Bool.or_true, Bool.true_or, Bool.or_false, Bool.false_or, Bool.not_true, Bool.not_false, cond_true, cond_false]
    rfl
  | succ d ih =>
    intro k n hk hn
    obtain ⟨n, rfl⟩ : ∃ k, n = k + 1 := ⟨n - 1, by omega⟩
    have g := ih (k + 1) n (by omega) (by omega)
    have h64 := wo.pow_le hp.2
    have hl := fs.ls_length (vo.w.sv qu xs) (k + 1)
    have ht : (fs.ls.sv (vo.w.sv qu xs) (k + 1)).take (k + 1) = fs.ls.sv (vo.w.sv qu xs) (k + 1) := List.take_of_length_le (by omega)
    rw [fs.ls.sv] at g
    rw [round]
    simp -implicitDefEqProofs (disch := omega) only [ht, hx, take_one, set_one, decide_eq_true, decide_eq_false, IntWalk.i64_in, beqT, beqF, bneT, bneF, nat_succ, ← Int.natCast_mul, ← Int.natCast_add, Int.toNat_natCast, Int.zero_mul, Int.zero_add, Int.add_zero, Nat.zero_add, Nat.add_zero, Nat.zero_mul, List.length_singleton, List.length_append, List.length_nil, List.length_cons, List.take_length, List.drop_zero, List.replicate_zero, List.take_nil, List.nil_append, Nat.reduceBEq, Nat.reduceMul, Nat.reduceLeDiff, eq_self, and_self, true_and, and_true, decide_true, decide_false, Bool.and_self, Bool.or_self, Bool.and_true, Bool.true_and, Bool.and_false, Bool.false_and, Bool.or_true, Bool.true_or, Bool.or_false, Bool.false_or, Bool.not_true, Bool.not_false, cond_true, cond_false]
    exact g
theorem run : ∀ args v new, R args = some (true, v, new) → ∃ fuel, regc [2] (runFn Try.prog (orc [⟨100, cloVote.R⟩, ⟨72, iValidWorths.R⟩]) hd Dr.std none fuel (bodyOf Try.f99) 29 [.cell 4 41, 5] args []) = some (v, new) := by
  intro args v new h
  unfold R at h
  split at h
  · rename_i p ff xs m qu
    simp only [Option.some.injEq, Prod.mk.injEq, Bool.and_eq_true, decide_eq_true_eq] at h
    obtain ⟨⟨⟨h1, h2, rfl, rfl, hm⟩, hx, hs⟩, rfl, rfl⟩ := h
    obtain ⟨p, rfl⟩ : ∃ q : Nat, p = q := ⟨p.toNat, by omega⟩
    rw [Int.toNat_natCast] at hs
    have s1 := wo.shl_one p (by omega)
    have hpp := wo.pow_pos p
    have h64 := wo.pow_le (p := p) (by omega)
    obtain ⟨F, hF⟩ : ∃ F : Nat, F = 100 := ⟨100, rfl⟩
    refine ⟨F + 1, ?_⟩
    have g := loop xs qu p (F + 1) ⟨by omega, by omega⟩ hm hx hs (2 ^ p - 1) 0 F (by omega) (by omega)
    rw [start]
    simp -implicitDefEqProofs (disch := omega) only [s1, take_one, set_one, decide_eq_true, decide_eq_false, IntWalk.i64_in, beqT, beqF, bneT, bneF, nat_succ, ← Int.natCast_mul, ← Int.natCast_add, Int.toNat_natCast, Int.zero_mul, Int.zero_add, Int.add_zero, Nat.zero_add, Nat.add_zero, Nat.zero_mul, List.length_singleton, List.length_append, List.length_nil, List.length_cons, List.take_length, List.drop_zero, List.replicate_zero, List.take_nil, List.nil_append, Nat.reduceBEq, Nat.reduceMul, Nat.reduceLeDiff, eq_self, and_self, true_and, and_true, decide_true, decide_false, Bool.and_self, Bool.or_self, Bool.and_true, Bool.true_and, Bool.and_false, Bool.false_and, Bool.or_true, Bool.true_or, Bool.or_false, Bool.false_or, Bool.not_true, Bool.not_false, cond_true, cond_false]
    rw [round0]
    simp -implicitDefEqProofs (disch := omega) only [s1, hx, take_one, set_one, decide_eq_true, decide_eq_false, IntWalk.i64_in, beqT, beqF, bneT, bneF, nat_succ, ← Int.natCast_mul, ← Int.natCast_add, Int.toNat_natCast, Int.zero_mul, Int.zero_add, Int.add_zero, Nat.zero_add, Nat.add_zero, Nat.zero_mul, List.length_singleton, List.length_append, List.length_nil, List.length_cons, List.take_length, List.drop_zero, List.replicate_zero, List.take_nil, List.nil_append, Nat.reduceBEq, Nat.reduceMul, Nat.reduceLeDiff, eq_self, and_self, true_and, and_true, decide_true, decide_false, Bool.and_self, Bool.or_self, Bool.and_true, Bool.true_and, Bool.and_false, Bool.false_and, Bool.or_true, Bool.true_or, Bool.or_false, Bool.false_or, Bool.not_true, Bool.not_false, cond_true, cond_false]
    exact g
  · cases h
theorem ok : EntOk Try.prog ⟨99, R⟩ :=
  ent_okAG (ks := [2]) mixed (A := (orc [⟨100, cloVote.R⟩, ⟨72, iValidWorths.R⟩])) (orc_ok (by simp only [List.mem_cons, List.not_mem_nil, or_false, forall_eq_or_imp, forall_eq]; exact ⟨cloVote.ok, iValidWorths.ok⟩)) Try.func99 (by kernel_rfl) (by kernel_rfl) (n := 29) (ts := [.cell 4 41, 5]) (hd := hd) (dr := Dr.std) (cut := none) (by kernel_rfl) (by kernel_rfl) (by kernel_rfl) run
end madeVote

namespace madeRun
def R : List AVal → Option (Bool × AVal × List Blk)
  | [.int .i64 p, .fn ff [.rom [.ro (.ints .i64 xs) m 1] 0]] => some (decide (1 ≤ p ∧ p ≤ 6 ∧ ff = 106 ∧ m = xs.length ∧ m ≤ 6) && ((xs.all fun x => decide (0 ≤ x) && decide (x ≤ 10000)) && wo.sp p (fs.ls.sv (vo.m.sv xs) (2 ^ p.toNat))), .tup [.agg [.int .i64 p, .own 0 0 (2 ^ p.toNat) 0 1], .bool true], [⟨.typ (.ints .i64 (fs.ls.sv (vo.m.sv xs) (2 ^ p.toNat))), 0⟩])
  | _ => none
def hd : Nat → Head := fun _ => ⟨[1, 4, 6, 11, 12, 998], none⟩
noncomputable def L (f n : Nat) (s : State) := loopAt Try.prog (orc [⟨106, cloRun.R⟩, ⟨72, iValidWorths.R⟩]) hd Dr.std 0 f (bodyOf Try.f99) 0 [true, true, false, true] (retK Try.prog [.cell 4 41, 5] 0 none) n s
theorem start (xs : List Int) (p : Int) (f : Nat) :
  runFn Try.prog (orc [⟨106, cloRun.R⟩, ⟨72, iValidWorths.R⟩]) hd Dr.std none f (bodyOf Try.f99) 29 [.cell 4 41, 5] [.int .i64 p, .fn 106 [.rom [.ro (.ints .i64 xs) xs.length 1] 0]] []
  = (bif decide ((0 : Int) ≤ p) then L f f (mkS (29 : Nat) [((1 : Nat), AVal.fn (106 : Nat) [AVal.rom [AVal.ro (Cont.ints IntKind.i64 xs) xs.length (1 : Nat)] (0 : Nat)]), ((4 : Nat), AVal.ptr (0 : Nat) (0 : Nat) (0 : Nat)), ((6 : Nat), AVal.ptr (1 : Nat) (0 : Nat) (0 : Nat)), ((11 : Nat), AVal.int IntKind.i64 (ishl.sv IntKind.i64 (1 : Int) p)), ((12 : Nat), AVal.int IntKind.i64 (0 : Int))] [{ c := BC.cells [AVal.int IntKind.i64 (0 : Int), AVal.nils], ver := (0 : Nat) }, { c := BC.cells [AVal.int IntKind.i64 p, AVal.nils], ver := (0 : Nat) }]) else none) := by kernel_rfl
theorem round0 (xs : List Int) (p l k : Int) (f n : Nat) :
  L f (n + 1) (mkS 29 [(1, .fn 106 [.rom [.ro (.ints .i64 xs) xs.length 1] 0]), (4, .ptr 0 0 0), (6, .ptr 1 0 0), (11, .int .i64 l), (12, .int .i64 k)] [⟨.cells [.int .i64 0, .nils], 0⟩, ⟨.cells [.int .i64 p, .nils], 0⟩])
  = (bif decide (k < l) then bif true && true then bif (decide (xs.length = xs.length ∧ xs.length ≤ (6 : Nat) ∧ (0 : Int) ≤ k ∧ k < (64 : Int)) && xs.all fun x => decide ((0 : Int) ≤ x) && decide (x ≤ (10000 : Int))) && (true && (true && true && true) || true && true) then bif (1 : Nat) == (1 : Nat) && (1 : Nat) == (1 : Nat) && (true && true && (decide ((0 : Nat) < (List.take (1 : Nat) (List.drop (0 : Nat) ((List.replicate (1 : Nat) (0 : Int)).set (0 : Nat) (vo.m.sv xs k.toNat)))).length) && (decide ((List.take (1 : Nat) (List.drop (0 : Nat) ((List.replicate (1 : Nat) (0 : Int)).set (0 : Nat) (vo.m.sv xs k.toNat)))).length ≤ (4611686018427387904 : Nat)) && decide ((List.take (1 : Nat) (List.drop (0 : Nat) ((List.replicate (1 : Nat) (0 : Int)).set (0 : Nat) (vo.m.sv xs k.toNat)))).length * (8 : Nat) ≤ (140737488355328 : Nat))))) then L f n (mkS (29 : Nat) [((1 : Nat), AVal.fn (106 : Nat) [AVal.rom [AVal.ro (Cont.ints IntKind.i64 xs) xs.length (1 : Nat)] (0 : Nat)]), ((4 : Nat), AVal.ptr (0 : Nat) (0 : Nat) (0 : Nat)), ((6 : Nat), AVal.ptr (1 : Nat) (0 : Nat) (0 : Nat)), ((11 : Nat), AVal.int IntKind.i64 l), ((12 : Nat), AVal.int IntKind.i64 (IntKind.i64.wrap (k + (1 : Int))))] [{ c := BC.cells [AVal.int IntKind.i64 (0 : Int), AVal.nils], ver := (0 : Nat) }, { c := BC.cells [AVal.int IntKind.i64 p, AVal.own (2 : Nat) (0 : Nat) (List.take (1 : Nat) (List.drop (0 : Nat) ((List.replicate (1 : Nat) (0 : Int)).set (0 : Nat) (vo.m.sv xs k.toNat)))).length (0 : Nat) (1 : Nat)], ver := (0 : Nat) }, { c := BC.typ (Cont.ints IntKind.i64 (List.take (1 : Nat) (List.drop (0 : Nat) ((List.replicate (1 : Nat) (0 : Int)).set (0 : Nat) (vo.m.sv xs k.toNat))))), ver := (0 : Nat) }]) else none else none else none else bif true && true && (true && true && true) then none else none) := by kernel_rfl
theorem round (xs : List Int) (p l k : Int) (os : List Int) (q f n : Nat) :
  L f (n + 1) (mkS 29 [(1, .fn 106 [.rom [.ro (.ints .i64 xs) xs.length 1] 0]), (4, .ptr 0 0 0), (6, .ptr 1 0 0), (11, .int .i64 l), (12, .int .i64 k)] [⟨.cells [.int .i64 0, .nils], 0⟩, ⟨.cells [.int .i64 p, .own 2 0 q 0 1], 0⟩, ⟨.typ (.ints .i64 os), 0⟩])
  = (bif decide (k < l) then bif true && true then bif (decide (xs.length = xs.length ∧ xs.length ≤ (6 : Nat) ∧ (0 : Int) ≤ k ∧ k < (64 : Int)) && xs.all fun x => decide ((0 : Int) ≤ x) && decide (x ≤ (10000 : Int))) && (true && (true && true && true) || true && true) then bif (1 : Nat) == (1 : Nat) && (1 : Nat) == (1 : Nat) && (true && (true && true) && (true && true && (decide (q + (List.take (1 : Nat) (List.drop (0 : Nat) ((List.replicate (1 : Nat) (0 : Int)).set (0 : Nat) (vo.m.sv xs k.toNat)))).length ≤ (4611686018427387904 : Nat)) && decide ((q + (List.take (1 : Nat) (List.drop (0 : Nat) ((List.replicate (1 : Nat) (0 : Int)).set (0 : Nat) (vo.m.sv xs k.toNat)))).length) * (8 : Nat) ≤ (140737488355328 : Nat))))) then L f n (mkS (29 : Nat) [((1 : Nat), AVal.fn (106 : Nat) [AVal.rom [AVal.ro (Cont.ints IntKind.i64 xs) xs.length (1 : Nat)] (0 : Nat)]), ((4 : Nat), AVal.ptr (0 : Nat) (0 : Nat) (0 : Nat)), ((6 : Nat), AVal.ptr (1 : Nat) (0 : Nat) (0 : Nat)), ((11 : Nat), AVal.int IntKind.i64 l), ((12 : Nat), AVal.int IntKind.i64 (IntKind.i64.wrap (k + (1 : Int))))] [{ c := BC.cells [AVal.int IntKind.i64 (0 : Int), AVal.nils], ver := (0 : Nat) }, { c := BC.cells [AVal.int IntKind.i64 p, AVal.own (2 : Nat) (0 : Nat) (q + (List.take (1 : Nat) (List.drop (0 : Nat) ((List.replicate (1 : Nat) (0 : Int)).set (0 : Nat) (vo.m.sv xs k.toNat)))).length) (0 : Nat) (1 : Nat)], ver := (0 : Nat) }, { c := BC.typ (Cont.ints IntKind.i64 (List.take q os ++ List.take (1 : Nat) (List.drop (0 : Nat) ((List.replicate (1 : Nat) (0 : Int)).set (0 : Nat) (vo.m.sv xs k.toNat))))), ver := (0 : Nat) }]) else none else none else none else bif true && true && (true && true && true) then bif decide (q = os.length) && wo.sp p os && (true && (false && true) && true || true && true) then bif true && true && (true && true && true) then bif true && true && (true && true && true) && true then some (AVal.tup [AVal.agg [AVal.int IntKind.i64 p, AVal.own (2 : Nat) (0 : Nat) q (0 : Nat) (1 : Nat)], AVal.bool true], [{ c := BC.cells [AVal.int IntKind.i64 p, AVal.own (2 : Nat) (0 : Nat) q (0 : Nat) (1 : Nat)], ver := (0 : Nat) }, { c := BC.cells [AVal.int IntKind.i64 p, AVal.own (2 : Nat) (0 : Nat) q (0 : Nat) (1 : Nat)], ver := (0 : Nat) }, { c := BC.typ (Cont.ints IntKind.i64 os), ver := (0 : Nat) }]) else none else none else none else none) := by kernel_rfl
theorem loop (xs : List Int) (p f : Nat) (hp : 1 ≤ p ∧ p ≤ 6) (hm : xs.length ≤ 6) (hx : (xs.all fun x => decide (0 ≤ x) && decide (x ≤ 10000)) = true) (hs : wo.sp (p : Int) (fs.ls.sv (vo.m.sv xs) (2 ^ p)) = true) : ∀ (d k n : Nat), k + d = 2 ^ p - 1 → d < n →
    regc [2] (L f n (mkS 29 [(1, .fn 106 [.rom [.ro (.ints .i64 xs) xs.length 1] 0]), (4, .ptr 0 0 0), (6, .ptr 1 0 0), (11, .int .i64 ((2 ^ p : Nat) : Int)), (12, .int .i64 ((k + 1 : Nat) : Int))] [⟨.cells [.int .i64 0, .nils], 0⟩, ⟨.cells [.int .i64 ((p : Nat) : Int), .own 2 0 (k + 1) 0 1], 0⟩, ⟨.typ (.ints .i64 (fs.ls.sv (vo.m.sv xs) (k + 1))), 0⟩])) = some (.tup [.agg [.int .i64 ((p : Nat) : Int), .own 0 0 (2 ^ p) 0 1], .bool true], [⟨.typ (.ints .i64 (fs.ls.sv (vo.m.sv xs) (2 ^ p))), 0⟩]) := by
  intro d
  induction d with
  | zero =>
    intro k n hk hn
    obtain ⟨n, rfl⟩ : ∃ k, n = k + 1 := ⟨n - 1, by omega⟩
    obtain rfl : k = 2 ^ p - 1 := by omega
    have hpp := wo.pow_pos p
    have hl := fs.ls_length (vo.m.sv xs) (2 ^ p - 1 + 1)
    have e : 2 ^ p - 1 + 1 = 2 ^ p := by omega
    rw [e] at hl ⊢
    rw [round]
    simp -implicitDefEqProofs (disch := omega) only [hs, hl, take_one, set_one, decide_eq_true, decide_eq_false, IntWalk.i64_in, beqT, beqF, bneT, bneF, nat_succ, ← Int.natCast_mul, ← Int.natCast_add, Int.toNat_natCast, Int.zero_mul, Int.zero_add, Int.add_zero, Nat.zero_add, Nat.add_zero, Nat.zero_mul, List.length_singleton, List.length_append, List.length_nil, List.length_cons, List.take_length, List.drop_zero, List.replicate_zero, List.take_nil, List.nil_append, Nat.reduceBEq, Nat.reduceMul, Nat.reduceLeDiff, eq_self, and_self, true_and, and_true, decide_true, decide_false, Bool.and_self, Bool.or_self, Bool.and_true, Bool.true_and, Bool.and_false, Bool.false_and, Bool.or_true, Bool.true_or, Bool.or_false, Bool.false_or, Bool.not_true, Bool.not_false, cond_true, cond_false]
    rfl
  | succ d ih =>
    intro k n hk hn
    obtain ⟨n, rfl⟩ : ∃ k, n = k + 1 := ⟨n - 1, by omega⟩
    have g := ih (k + 1) n (by omega) (by omega)
    have h64 := wo.pow_le hp.2
    have hl := fs.ls_length (vo.m.sv xs) (k + 1)
    have ht : (fs.ls.sv (vo.m.sv xs) (k + 1)).take (k + 1) = fs.ls.sv (vo.m.sv xs) (k + 1) := List.take_of_length_le (by omega)
    rw [fs.ls.sv] at g
    rw [round]
    simp -implicitDefEqProofs (disch := omega) only [ht, hx, take_one, set_one, decide_eq_true, decide_eq_false, IntWalk.i64_in, beqT, beqF, bneT, bneF, nat_succ, ← Int.natCast_mul, ← Int.natCast_add, Int.toNat_natCast, Int.zero_mul, Int.zero_add, Int.add_zero, Nat.zero_add, Nat.add_zero, Nat.zero_mul, List.length_singleton, List.length_append, List.length_nil, List.length_cons, List.take_length, List.drop_zero, List.replicate_zero, List.take_nil, List.nil_append, Nat.reduceBEq, Nat.reduceMul, Nat.reduceLeDiff, eq_self, and_self, true_and, and_true, decide_true, decide_false, Bool.and_self, Bool.or_self, Bool.and_true, Bool.true_and, Bool.and_false, Bool.false_and, Bool.or_true, Bool.true_or, Bool.or_false, Bool.false_or, Bool.not_true, Bool.not_false, cond_true, cond_false]
    exact g
theorem run : ∀ args v new, R args = some (true, v, new) → ∃ fuel, regc [2] (runFn Try.prog (orc [⟨106, cloRun.R⟩, ⟨72, iValidWorths.R⟩]) hd Dr.std none fuel (bodyOf Try.f99) 29 [.cell 4 41, 5] args []) = some (v, new) := by
  intro args v new h
  unfold R at h
  split at h
  · rename_i p ff xs m
    simp only [Option.some.injEq, Prod.mk.injEq, Bool.and_eq_true, decide_eq_true_eq] at h
    obtain ⟨⟨⟨h1, h2, rfl, rfl, hm⟩, hx, hs⟩, rfl, rfl⟩ := h
    obtain ⟨p, rfl⟩ : ∃ q : Nat, p = q := ⟨p.toNat, by omega⟩
    rw [Int.toNat_natCast] at hs
    have s1 := wo.shl_one p (by omega)
    have hpp := wo.pow_pos p
    have h64 := wo.pow_le (p := p) (by omega)
    obtain ⟨F, hF⟩ : ∃ F : Nat, F = 100 := ⟨100, rfl⟩
    refine ⟨F + 1, ?_⟩
    have g := loop xs p (F + 1) ⟨by omega, by omega⟩ hm hx hs (2 ^ p - 1) 0 F (by omega) (by omega)
    rw [start]
    simp -implicitDefEqProofs (disch := omega) only [s1, take_one, set_one, decide_eq_true, decide_eq_false, IntWalk.i64_in, beqT, beqF, bneT, bneF, nat_succ, ← Int.natCast_mul, ← Int.natCast_add, Int.toNat_natCast, Int.zero_mul, Int.zero_add, Int.add_zero, Nat.zero_add, Nat.add_zero, Nat.zero_mul, List.length_singleton, List.length_append, List.length_nil, List.length_cons, List.take_length, List.drop_zero, List.replicate_zero, List.take_nil, List.nil_append, Nat.reduceBEq, Nat.reduceMul, Nat.reduceLeDiff, eq_self, and_self, true_and, and_true, decide_true, decide_false, Bool.and_self, Bool.or_self, Bool.and_true, Bool.true_and, Bool.and_false, Bool.false_and, Bool.or_true, Bool.true_or, Bool.or_false, Bool.false_or, Bool.not_true, Bool.not_false, cond_true, cond_false]
    rw [round0]
    simp -implicitDefEqProofs (disch := omega) only [s1, hx, take_one, set_one, decide_eq_true, decide_eq_false, IntWalk.i64_in, beqT, beqF, bneT, bneF, nat_succ, ← Int.natCast_mul, ← Int.natCast_add, Int.toNat_natCast, Int.zero_mul, Int.zero_add, Int.add_zero, Nat.zero_add, Nat.add_zero, Nat.zero_mul, List.length_singleton, List.length_append, List.length_nil, List.length_cons, List.take_length, List.drop_zero, List.replicate_zero, List.take_nil, List.nil_append, Nat.reduceBEq, Nat.reduceMul, Nat.reduceLeDiff, eq_self, and_self, true_and, and_true, decide_true, decide_false, Bool.and_self, Bool.or_self, Bool.and_true, Bool.true_and, Bool.and_false, Bool.false_and, Bool.or_true, Bool.true_or, Bool.or_false, Bool.false_or, Bool.not_true, Bool.not_false, cond_true, cond_false]
    exact g
  · cases h
theorem ok : EntOk Try.prog ⟨99, R⟩ :=
  ent_okAG (ks := [2]) mixed (A := (orc [⟨106, cloRun.R⟩, ⟨72, iValidWorths.R⟩])) (orc_ok (by simp only [List.mem_cons, List.not_mem_nil, or_false, forall_eq_or_imp, forall_eq]; exact ⟨cloRun.ok, iValidWorths.ok⟩)) Try.func99 (by kernel_rfl) (by kernel_rfl) (n := 29) (ts := [.cell 4 41, 5]) (hd := hd) (dr := Dr.std) (cut := none) (by kernel_rfl) (by kernel_rfl) (by kernel_rfl) run
end madeRun

end Go.Proofs.Ytadcpdjcadnepaa.Ab
