/-
  Functions: bytes that worths and orders are drawn from.
-/
import Derived.Test.YtekadpddilfolaaFnWF
import Derived.Test.YtekadpddilfolaaFnNA
namespace Go.Proofs.Ytekadpddilfolaa.Ab
open Go
set_option linter.unusedVariables false
set_option linter.unusedSimpArgs false
set_option maxRecDepth 100000

namespace bNext
def R : List AVal → Heap → Option (Bool × AVal × Heap)
  | [.ptr 0 0 0], [⟨.cells [.ro (.ints .u8 xs) m 1, .int .i64 a, .int .u64 s], 0⟩] => some (decide (m = xs.length ∧ m ≤ 2000000 ∧ 0 ≤ a ∧ a ≤ 1000000), .int .i64 (r8.nx.sv xs a.toNat s), [⟨.cells [.ro (.ints .u8 xs) m 1, .int .i64 (a + 1), .int .u64 (r8.seed.sv xs a.toNat s)], 0⟩])
  | _, _ => none
theorem go (xs : List Int) (a : Nat) (s : Int) :
  runFn Try.prog (orc []) hd0 Dr.std none 0 (bodyOf Try.f120) 62 [2] [.ptr 0 0 0] [⟨.cells [.ro (.ints .u8 xs) xs.length 1, .int .i64 a, .int .u64 s], 0⟩]
  = (bif true && true then bif true && true then bif true && true then bif decide ((↑a : Int) < (↑xs.length : Int)) then bif true && true then bif true && true then bif true && (decide ((0 : Int) ≤ (↑a : Int)) && decide ((↑a : Int) < (↑xs.length : Int))) then bif decide ((↑a : Int).toNat < xs.length) then bif true && true then bif true && true then bif true && true then bif true && true then bif decide (IntKind.i64.wrap ((↑a : Int) + (1 : Int)) ≤ (↑xs.length : Int)) then some (AVal.int IntKind.i64 (IntKind.i64.wrap (gz xs (↑a : Int).toNat)), [{ c := BC.cells [AVal.ro (Cont.ints IntKind.u8 xs) xs.length (1 : Nat), AVal.int IntKind.i64 (IntKind.i64.wrap ((↑a : Int) + (1 : Int))), AVal.int IntKind.u64 (IntKind.u64.wrap (IntKind.u64.wrap (IntKind.u64.wrap (s * (6364136223846793005 : Int)) + IntKind.u64.wrap (IntKind.i64.wrap (gz xs (↑a : Int).toNat))) + (1442695040888963407 : Int)))], ver := (0 : Nat) }]) else bif true && true then some (AVal.int IntKind.i64 (IntKind.i64.wrap (iand.sv IntKind.u64 (ishr.sv IntKind.u64 (IntKind.u64.wrap (IntKind.u64.wrap (IntKind.u64.wrap (s * (6364136223846793005 : Int)) + IntKind.u64.wrap (IntKind.i64.wrap (gz xs (↑a : Int).toNat))) + (1442695040888963407 : Int))) (40 : Int)) (255 : Int))), [{ c := BC.cells [AVal.ro (Cont.ints IntKind.u8 xs) xs.length (1 : Nat), AVal.int IntKind.i64 (IntKind.i64.wrap ((↑a : Int) + (1 : Int))), AVal.int IntKind.u64 (IntKind.u64.wrap (IntKind.u64.wrap (IntKind.u64.wrap (s * (6364136223846793005 : Int)) + IntKind.u64.wrap (IntKind.i64.wrap (gz xs (↑a : Int).toNat))) + (1442695040888963407 : Int)))], ver := (0 : Nat) }]) else none else none else none else none else none else none else none else none else none else bif true && true then bif true && true then bif true && true then bif true && true then bif decide (IntKind.i64.wrap ((↑a : Int) + (1 : Int)) ≤ (↑xs.length : Int)) then some (AVal.int IntKind.i64 (0 : Int), [{ c := BC.cells [AVal.ro (Cont.ints IntKind.u8 xs) xs.length (1 : Nat), AVal.int IntKind.i64 (IntKind.i64.wrap ((↑a : Int) + (1 : Int))), AVal.int IntKind.u64 (IntKind.u64.wrap (IntKind.u64.wrap (IntKind.u64.wrap (s * (6364136223846793005 : Int)) + (0 : Int)) + (1442695040888963407 : Int)))], ver := (0 : Nat) }]) else bif true && true then some (AVal.int IntKind.i64 (IntKind.i64.wrap (iand.sv IntKind.u64 (ishr.sv IntKind.u64 (IntKind.u64.wrap (IntKind.u64.wrap (IntKind.u64.wrap (s * (6364136223846793005 : Int)) + (0 : Int)) + (1442695040888963407 : Int))) (40 : Int)) (255 : Int))), [{ c := BC.cells [AVal.ro (Cont.ints IntKind.u8 xs) xs.length (1 : Nat), AVal.int IntKind.i64 (IntKind.i64.wrap ((↑a : Int) + (1 : Int))), AVal.int IntKind.u64 (IntKind.u64.wrap (IntKind.u64.wrap (IntKind.u64.wrap (s * (6364136223846793005 : Int)) + (0 : Int)) + (1442695040888963407 : Int)))], ver := (0 : Nat) }]) else none else none else none else none else none else none else none else none) := by kernel_rfl
theorem run : ∀ args H v new, R args H = some (true, v, new) → ∃ fuel, runFn Try.prog (orc []) hd0 Dr.std none fuel (bodyOf Try.f120) 62 [2] args H = some (v, new) := by
  intro args H v new h
  unfold R at h
  split at h
  · rename_i xs m a s
    simp only [Option.some.injEq, Prod.mk.injEq, decide_eq_true_eq] at h
    obtain ⟨⟨rfl, h1, h2, h3⟩, rfl, rfl⟩ := h
    obtain ⟨a, rfl⟩ : ∃ q : Nat, a = q := ⟨a.toNat, by omega⟩
    refine ⟨0, ?_⟩
    have wa : IntKind.i64.wrap ((a : Int) + 1) = (a : Int) + 1 := IntWalk.i64_in _ (by omega)
    have g0 : (0 : Int) ≤ (a : Int) := Int.natCast_nonneg _
    rw [go, Int.toNat_natCast]
    unfold r8.nx.sv
    by_cases c : a < xs.length
    · have c2 : (a : Int) < (xs.length : Int) := by omega
      have c3 : (a : Int) + 1 ≤ (xs.length : Int) := by omega
      rw [r8.seed_in c]
      simp -implicitDefEqProofs only [c, c2, c3, wa, g0, Int.toNat_natCast, decide_true, decide_false, Bool.and_self, Bool.or_self, Bool.and_true, Bool.true_and, Bool.and_false, Bool.false_and, Bool.or_true, Bool.true_or, Bool.or_false, Bool.false_or, Bool.not_true, Bool.not_false, cond_true, cond_false]
    · have c2 : ¬ ((a : Int) < (xs.length : Int)) := by omega
      have c3 : ¬ ((a : Int) + 1 ≤ (xs.length : Int)) := by omega
      rw [r8.seed_end c]
      simp -implicitDefEqProofs only [c, c2, c3, wa, g0, Int.toNat_natCast, decide_true, decide_false, Bool.and_self, Bool.or_self, Bool.and_true, Bool.true_and, Bool.and_false, Bool.false_and, Bool.or_true, Bool.true_or, Bool.or_false, Bool.false_or, Bool.not_true, Bool.not_false, cond_true, cond_false]
  · cases h
theorem ok : EntWOk Try.prog ⟨120, R⟩ :=
  entw_ok mixed (A := (orc [])) (orc_ok (by simp)) Try.func120 (by kernel_rfl) (by kernel_rfl) (n := 62) (ts := [2]) (hd := hd0) (dr := Dr.std) (cut := none) (by kernel_rfl) (by kernel_rfl) (by kernel_rfl) run
end bNext

namespace bPick
def R : List AVal → Heap → Option (Bool × AVal × Heap)
  | [.ptr 0 0 0, .int .i64 k], [⟨.cells [.ro (.ints .u8 xs) m 1, .int .i64 a, .int .u64 s], 0⟩] => some (decide (m = xs.length ∧ m ≤ 2000000 ∧ 0 ≤ a ∧ a ≤ 1000000 ∧ 1 ≤ k ∧ k ≤ 200), .int .i64 ((r8.nx.sv xs a.toNat s).tmod k), [⟨.cells [.ro (.ints .u8 xs) m 1, .int .i64 (bif decide (k ≤ 1) then a else a + 1), .int .u64 (bif decide (k ≤ 1) then s else r8.seed.sv xs a.toNat s)], 0⟩])
  | _, _ => none
theorem go (xs : List Int) (a s k : Int) :
  runFn Try.prog (orcW [⟨120, bNext.R⟩] []) hd0 Dr.std none 0 (bodyOf Try.f85) 20 [4] [.ptr 0 0 0, .int .i64 k] [⟨.cells [.ro (.ints .u8 xs) xs.length 1, .int .i64 a, .int .u64 s], 0⟩]
  = (bif true && true then bif decide (k ≤ (1 : Int)) then some (AVal.int IntKind.i64 (0 : Int), [{ c := BC.cells [AVal.ro (Cont.ints IntKind.u8 xs) xs.length (1 : Nat), AVal.int IntKind.i64 a, AVal.int IntKind.u64 s], ver := (0 : Nat) }]) else bif decide (xs.length = xs.length ∧ xs.length ≤ (2000000 : Nat) ∧ (0 : Int) ≤ a ∧ a ≤ (1000000 : Int)) && (true && (true && true)) then bif decide ((200 : Int) < k) then bif decide (xs.length = xs.length ∧ xs.length ≤ (2000000 : Nat) ∧ (0 : Int) ≤ a + (1 : Int) ∧ a + (1 : Int) ≤ (1000000 : Int)) && (true && (true && true)) then bif !k == (0 : Int) then some (AVal.int IntKind.i64 ((IntKind.i64.wrap (IntKind.i64.wrap (r8.nx.sv xs a.toNat s * (256 : Int)) + r8.nx.sv xs (a + (1 : Int)).toNat (r8.seed.sv xs a.toNat s))).tmod k), [{ c := BC.cells [AVal.ro (Cont.ints IntKind.u8 xs) xs.length (1 : Nat), AVal.int IntKind.i64 (a + (1 : Int) + (1 : Int)), AVal.int IntKind.u64 (r8.seed.sv xs (a + (1 : Int)).toNat (r8.seed.sv xs a.toNat s))], ver := (0 : Nat) }]) else none else none else bif !k == (0 : Int) then some (AVal.int IntKind.i64 ((r8.nx.sv xs a.toNat s).tmod k), [{ c := BC.cells [AVal.ro (Cont.ints IntKind.u8 xs) xs.length (1 : Nat), AVal.int IntKind.i64 (a + (1 : Int)), AVal.int IntKind.u64 (r8.seed.sv xs a.toNat s)], ver := (0 : Nat) }]) else none else none else none) := by kernel_rfl
theorem run : ∀ args H v new, R args H = some (true, v, new) → ∃ fuel, runFn Try.prog (orcW [⟨120, bNext.R⟩] []) hd0 Dr.std none fuel (bodyOf Try.f85) 20 [4] args H = some (v, new) := by
  intro args H v new h
  unfold R at h
  split at h
  · rename_i k xs m a s
    simp only [Option.some.injEq, Prod.mk.injEq, decide_eq_true_eq] at h
    obtain ⟨⟨rfl, h1, h2, h3, h4, h5⟩, rfl, rfl⟩ := h
    refine ⟨0, ?_⟩
    have c3 : (k == 0) = false := by rw [beq_eq_false_iff_ne]; omega
    rw [go]
    by_cases c : k ≤ 1
    · obtain rfl : k = 1 := by omega
      have e : (r8.nx.sv xs a.toNat s).tmod 1 = 0 := Int.tmod_one _
      simp -implicitDefEqProofs (disch := omega) only [e, take_one, set_one, decide_eq_true, decide_eq_false, IntWalk.i64_in, beqT, beqF, bneT, bneF, nat_succ, ← Int.natCast_mul, ← Int.natCast_add, Int.toNat_natCast, Int.zero_mul, Int.zero_add, Int.add_zero, Nat.zero_add, Nat.add_zero, Nat.zero_mul, List.length_singleton, List.length_append, List.length_nil, List.length_cons, List.take_length, List.drop_zero, List.replicate_zero, List.take_nil, List.nil_append, Nat.reduceBEq, Nat.reduceMul, Nat.reduceLeDiff, eq_self, and_self, true_and, and_true, decide_true, decide_false, Bool.and_self, Bool.or_self, Bool.and_true, Bool.true_and, Bool.and_false, Bool.false_and, Bool.or_true, Bool.true_or, Bool.or_false, Bool.false_or, Bool.not_true, Bool.not_false, cond_true, cond_false]
    · simp -implicitDefEqProofs (disch := omega) only [c3, take_one, set_one, decide_eq_true, decide_eq_false, IntWalk.i64_in, beqT, beqF, bneT, bneF, nat_succ, ← Int.natCast_mul, ← Int.natCast_add, Int.toNat_natCast, Int.zero_mul, Int.zero_add, Int.add_zero, Nat.zero_add, Nat.add_zero, Nat.zero_mul, List.length_singleton, List.length_append, List.length_nil, List.length_cons, List.take_length, List.drop_zero, List.replicate_zero, List.take_nil, List.nil_append, Nat.reduceBEq, Nat.reduceMul, Nat.reduceLeDiff, eq_self, and_self, true_and, and_true, decide_true, decide_false, Bool.and_self, Bool.or_self, Bool.and_true, Bool.true_and, Bool.and_false, Bool.false_and, Bool.or_true, Bool.true_or, Bool.or_false, Bool.false_or, Bool.not_true, Bool.not_false, cond_true, cond_false]
  · cases h
theorem ok : EntWOk Try.prog ⟨85, R⟩ :=
  entw_ok mixed (A := (orcW [⟨120, bNext.R⟩] [])) (orcW_ok (by simp only [List.mem_cons, List.not_mem_nil, or_false, forall_eq_or_imp, forall_eq]; exact bNext.ok) (by simp)) Try.func85 (by kernel_rfl) (by kernel_rfl) (n := 20) (ts := [4]) (hd := hd0) (dr := Dr.std) (cut := none) (by kernel_rfl) (by kernel_rfl) (by kernel_rfl) run
end bPick

namespace l03Count
def R : List AVal → Option (Bool × AVal × List Blk)
  | [.int .i64 k] => some (decide (0 ≤ k ∧ k < 64), .int .i64 (wo.cnt.sv k.toNat : Nat), [])
  | _ => none
def hd : Nat → Head := fun _ => ⟨[0, 3], none⟩
noncomputable def L (f n : Nat) (s : State) := loopAt Try.prog (orc []) hd Dr.std 0 f (bodyOf Try.f112) 0 [true, true, false] (retK Try.prog [2] 0 none) n s
theorem start (k : Int) (f : Nat) :
  runFn Try.prog (orc []) hd Dr.std none f (bodyOf Try.f112) 13 [2] [.int .i64 k] []
  = (L f f (mkS (13 : Nat) [((0 : Nat), AVal.int IntKind.i64 k), ((3 : Nat), AVal.int IntKind.i64 (0 : Int))] [])) := by kernel_rfl
theorem round (k s : Int) (f n : Nat) :
  L f (n + 1) (mkS 13 [(0, .int .i64 k), (3, .int .i64 s)] [])
  = (bif decide ((0 : Int) < k) then L f n (mkS (13 : Nat) [((0 : Nat), AVal.int IntKind.i64 (IntKind.i64.wrap (k.tdiv (2 : Int)))), ((3 : Nat), AVal.int IntKind.i64 (IntKind.i64.wrap (s + k.tmod (2 : Int))))] []) else some (AVal.int IntKind.i64 s, [])) := by kernel_rfl
theorem cnt_half (k : Nat) (h : k < 64) : wo.cnt.sv k = k % 2 + wo.cnt.sv (k / 2) := by unfold wo.cnt.sv; omega
theorem loop (f : Nat) : ∀ (d k s n : Nat), k < 2 ^ d → d ≤ 6 → s + d ≤ 100 → d < n →
    L f n (mkS 13 [(0, .int .i64 ((k : Nat) : Int)), (3, .int .i64 ((s : Nat) : Int))] []) = some (.int .i64 ((s + wo.cnt.sv k : Nat) : Int), []) := by
  intro d
  induction d with
  | zero =>
    intro k s n hk hd hs hn
    obtain ⟨n, rfl⟩ : ∃ k, n = k + 1 := ⟨n - 1, by omega⟩
    obtain rfl : k = 0 := by omega
    rw [round]
    simp -implicitDefEqProofs (disch := omega) only [take_one, set_one, decide_eq_true, decide_eq_false, IntWalk.i64_in, beqT, beqF, bneT, bneF, nat_succ, ← Int.natCast_mul, ← Int.natCast_add, Int.toNat_natCast, Int.zero_mul, Int.zero_add, Int.add_zero, Nat.zero_add, Nat.add_zero, Nat.zero_mul, List.length_singleton, List.length_append, List.length_nil, List.length_cons, List.take_length, List.drop_zero, List.replicate_zero, List.take_nil, List.nil_append, Nat.reduceBEq, Nat.reduceMul, Nat.reduceLeDiff, eq_self, and_self, true_and, and_true, decide_true, decide_false, Bool.and_self, Bool.or_self, Bool.and_true, Bool.true_and, Bool.and_false, Bool.false_and, Bool.or_true, Bool.true_or, Bool.or_false, Bool.false_or, Bool.not_true, Bool.not_false, cond_true, cond_false]
    rfl
  | succ d ih =>
    intro k s n hk hd hs hn
    obtain ⟨n, rfl⟩ : ∃ k, n = k + 1 := ⟨n - 1, by omega⟩
    have h6 := wo.pow_le hd
    have hk2 : k / 2 < 2 ^ d := by rw [Nat.pow_succ] at hk; omega
    have g := ih (k / 2) (s + k % 2) n hk2 (by omega) (by omega) (by omega)
    have hc := cnt_half k (by omega)
    rw [Nat.add_assoc, ← hc] at g
    have t1 : ((k : Nat) : Int).tmod 2 = ((k % 2 : Nat) : Int) := rfl
    have t2 : ((k : Nat) : Int).tdiv 2 = ((k / 2 : Nat) : Int) := rfl
    rw [round]
    by_cases h0 : k = 0
    · subst h0
      simp -implicitDefEqProofs (disch := omega) only [take_one, set_one, decide_eq_true, decide_eq_false, IntWalk.i64_in, beqT, beqF, bneT, bneF, nat_succ, ← Int.natCast_mul, ← Int.natCast_add, Int.toNat_natCast, Int.zero_mul, Int.zero_add, Int.add_zero, Nat.zero_add, Nat.add_zero, Nat.zero_mul, List.length_singleton, List.length_append, List.length_nil, List.length_cons, List.take_length, List.drop_zero, List.replicate_zero, List.take_nil, List.nil_append, Nat.reduceBEq, Nat.reduceMul, Nat.reduceLeDiff, eq_self, and_self, true_and, and_true, decide_true, decide_false, Bool.and_self, Bool.or_self, Bool.and_true, Bool.true_and, Bool.and_false, Bool.false_and, Bool.or_true, Bool.true_or, Bool.or_false, Bool.false_or, Bool.not_true, Bool.not_false, cond_true, cond_false]
      rfl
    · simp -implicitDefEqProofs (disch := omega) only [t1, t2, take_one, set_one, decide_eq_true, decide_eq_false, IntWalk.i64_in, beqT, beqF, bneT, bneF, nat_succ, ← Int.natCast_mul, ← Int.natCast_add, Int.toNat_natCast, Int.zero_mul, Int.zero_add, Int.add_zero, Nat.zero_add, Nat.add_zero, Nat.zero_mul, List.length_singleton, List.length_append, List.length_nil, List.length_cons, List.take_length, List.drop_zero, List.replicate_zero, List.take_nil, List.nil_append, Nat.reduceBEq, Nat.reduceMul, Nat.reduceLeDiff, eq_self, and_self, true_and, and_true, decide_true, decide_false, Bool.and_self, Bool.or_self, Bool.and_true, Bool.true_and, Bool.and_false, Bool.false_and, Bool.or_true, Bool.true_or, Bool.or_false, Bool.false_or, Bool.not_true, Bool.not_false, cond_true, cond_false]
      exact g
theorem run : ∀ args v new, R args = some (true, v, new) → ∃ fuel, runFn Try.prog (orc []) hd Dr.std none fuel (bodyOf Try.f112) 13 [2] args [] = some (v, new) := by
  intro args v new h
  unfold R at h
  split at h
  · rename_i k
    simp only [Option.some.injEq, Prod.mk.injEq, decide_eq_true_eq] at h
    obtain ⟨⟨h1, h2⟩, rfl, rfl⟩ := h
    obtain ⟨k, rfl⟩ : ∃ q : Nat, k = q := ⟨k.toNat, by omega⟩
    obtain ⟨F, hF⟩ : ∃ F : Nat, F = 100 := ⟨100, rfl⟩
    refine ⟨F, ?_⟩
    have g := loop F 6 k 0 F (by omega) (by omega) (by omega) (by omega)
    rw [Nat.zero_add] at g
    rw [start]
    exact g
  · cases h
theorem ok : EntOk Try.prog ⟨112, R⟩ :=
  ent_okA mixed (A := (orc [])) (orc_ok (by simp)) Try.func112 (by kernel_rfl) (by kernel_rfl) (n := 13) (ts := [2]) (hd := hd) (dr := Dr.std) (cut := none) (by kernel_rfl) (by kernel_rfl) (by kernel_rfl) run
end l03Count

namespace b10Long
def R : List AVal → Option (Bool × AVal × List Blk)
  | [.ro (.ints .u8 xs) m 1, .ro (.ints .u8 ys) k 1] => some (true, .bool (decide ((1048576 : Int) < (m : Int)) || decide ((1048576 : Int) < (k : Int))), [])
  | _ => none
theorem go (xs ys : List Int) (m k : Nat) :
  runFn Try.prog (orc []) hd0 Dr.std none 0 (bodyOf Try.f7) 13 [4] [.ro (.ints .u8 xs) m 1, .ro (.ints .u8 ys) k 1] []
  = (bif decide ((1048576 : Int) < (↑m : Int)) then some (AVal.bool true, []) else some (AVal.bool (decide ((1048576 : Int) < (↑k : Int))), [])) := by kernel_rfl
theorem run : ∀ args v new, R args = some (true, v, new) → ∃ fuel, runFn Try.prog (orc []) hd0 Dr.std none fuel (bodyOf Try.f7) 13 [4] args [] = some (v, new) := by
  intro args v new h
  unfold R at h
  split at h
  · rename_i xs m ys k
    simp only [Option.some.injEq, Prod.mk.injEq, true_and] at h
    obtain ⟨rfl, rfl⟩ := h
    refine ⟨0, ?_⟩
    rw [go]
    cases decide ((1048576 : Int) < (m : Int)) <;> rfl
  · cases h
theorem ok : EntOk Try.prog ⟨7, R⟩ :=
  ent_okA mixed (A := (orc [])) (orc_ok (by simp)) Try.func7 (by kernel_rfl) (by kernel_rfl) (n := 13) (ts := [4]) (hd := hd0) (dr := Dr.std) (cut := none) (by kernel_rfl) (by kernel_rfl) (by kernel_rfl) run
end b10Long

namespace wo
/-- A number that is chosen by a byte, or by its place. -/
def at.sv (xs : List Int) (i : Nat) (n : Int) : Int := bif decide (i < xs.length) then (gz xs i).tmod n else ((i : Int) * 37 + 11).tmod n
theorem at_in {xs : List Int} (h : r8.bytes.sp xs = true) (i : Nat) {n : Int} (hn : 1 ≤ n) : 0 ≤ at.sv xs i n ∧ at.sv xs i n < n := by
  unfold at.sv
  have hb := r8.byte h i
  cases decide (i < xs.length)
  · exact r8.tmod_in (by omega) (by omega)
  · exact r8.tmod_in hb.1 (by omega)
end wo

namespace b10At
def R : List AVal → Option (Bool × AVal × List Blk)
  | [.ro (.ints .u8 xs) m 1, .int .i64 i, .int .i64 n] => some (decide (m = xs.length ∧ 0 ≤ i ∧ i ≤ 1000 ∧ 2 ≤ n ∧ n ≤ 1000) && r8.bytes.sp xs, .int .i64 (wo.at.sv xs i.toNat n), [])
  | _ => none
theorem go (xs : List Int) (i n : Int) :
  runFn Try.prog (orc []) hd0 Dr.std none 0 (bodyOf Try.f8) 25 [6] [.ro (.ints .u8 xs) xs.length 1, .int .i64 i, .int .i64 n] []
  = (bif decide (n ≤ (1 : Int)) then some (AVal.int IntKind.i64 (0 : Int), []) else bif decide (i < (↑xs.length : Int)) then bif true && (decide ((0 : Int) ≤ i) && decide (i < (↑xs.length : Int))) then bif decide (i.toNat < xs.length) then bif !n == (0 : Int) then some (AVal.int IntKind.i64 ((IntKind.i64.wrap (gz xs i.toNat)).tmod n), []) else none else none else none else bif !n == (0 : Int) then some (AVal.int IntKind.i64 ((IntKind.i64.wrap (IntKind.i64.wrap (i * (37 : Int)) + (11 : Int))).tmod n), []) else none) := by kernel_rfl
theorem run : ∀ args v new, R args = some (true, v, new) → ∃ fuel, runFn Try.prog (orc []) hd0 Dr.std none fuel (bodyOf Try.f8) 25 [6] args [] = some (v, new) := by
  intro args v new h
  unfold R at h
  split at h
  · rename_i xs m i n
    simp only [Option.some.injEq, Prod.mk.injEq, Bool.and_eq_true, decide_eq_true_eq] at h
    obtain ⟨⟨⟨rfl, h1, h2, h3, h4⟩, hb⟩, rfl, rfl⟩ := h
    obtain ⟨i, rfl⟩ : ∃ q : Nat, i = q := ⟨i.toNat, by omega⟩
    have c3 : (n == 0) = false := by rw [beq_eq_false_iff_ne]; omega
    have hg := r8.byte hb i
    refine ⟨0, ?_⟩
    rw [go, Int.toNat_natCast]
    unfold wo.at.sv
    by_cases c : i < xs.length
    · simp -implicitDefEqProofs (disch := omega) only [c3, take_one, set_one, decide_eq_true, decide_eq_false, IntWalk.i64_in, beqT, beqF, bneT, bneF, nat_succ, Int.toNat_natCast, Int.zero_mul, Int.zero_add, Int.add_zero, Nat.zero_add, Nat.add_zero, Nat.zero_mul, List.length_singleton, List.length_append, List.length_nil, List.length_cons, List.take_length, List.drop_zero, List.replicate_zero, List.take_nil, List.nil_append, Nat.reduceBEq, Nat.reduceMul, Nat.reduceLeDiff, eq_self, and_self, true_and, and_true, decide_true, decide_false, Bool.and_self, Bool.or_self, Bool.and_true, Bool.true_and, Bool.and_false, Bool.false_and, Bool.or_true, Bool.true_or, Bool.or_false, Bool.false_or, Bool.not_true, Bool.not_false, cond_true, cond_false]
    · simp -implicitDefEqProofs (disch := omega) only [c3, take_one, set_one, decide_eq_true, decide_eq_false, IntWalk.i64_in, beqT, beqF, bneT, bneF, nat_succ, Int.toNat_natCast, Int.zero_mul, Int.zero_add, Int.add_zero, Nat.zero_add, Nat.add_zero, Nat.zero_mul, List.length_singleton, List.length_append, List.length_nil, List.length_cons, List.take_length, List.drop_zero, List.replicate_zero, List.take_nil, List.nil_append, Nat.reduceBEq, Nat.reduceMul, Nat.reduceLeDiff, eq_self, and_self, true_and, and_true, decide_true, decide_false, Bool.and_self, Bool.or_self, Bool.and_true, Bool.true_and, Bool.and_false, Bool.false_and, Bool.or_true, Bool.true_or, Bool.or_false, Bool.false_or, Bool.not_true, Bool.not_false, cond_true, cond_false]
  · cases h
theorem ok : EntOk Try.prog ⟨8, R⟩ :=
  ent_okA mixed (A := (orc [])) (orc_ok (by simp)) Try.func8 (by kernel_rfl) (by kernel_rfl) (n := 25) (ts := [6]) (hd := hd0) (dr := Dr.std) (cut := none) (by kernel_rfl) (by kernel_rfl) (by kernel_rfl) run
end b10At

end Go.Proofs.Ytekadpddilfolaa.Ab
