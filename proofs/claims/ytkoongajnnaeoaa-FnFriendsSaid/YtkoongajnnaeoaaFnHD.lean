/-
  What the laws of houses and friends draw; orders that are drawn.
-/
import Derived.Test.YtkoongajnnaeoaaFnNA
import Derived.Test.YtkoongajnnaeoaaFnAU
import Derived.Test.YtkoongajnnaeoaaFnQ
namespace Go.Proofs.Ytkoongajnnaeoaa.Ab
open Go
set_option linter.unusedVariables false
set_option linter.unusedSimpArgs false
set_option maxRecDepth 100000

namespace bNext
def R : List AVal → Heap → Option (Bool × AVal × Heap)
  | [.ptr 0 0 0], [⟨.cells [.ro (.ints .u8 xs) m 1, .int .i64 a, .int .u64 s], 0⟩] => some (decide (m = xs.length ∧ m ≤ 2000000 ∧ 0 ≤ a ∧ a ≤ 1000000), .int .i64 (r8.nx.sv xs a.toNat s), [⟨.cells [.ro (.ints .u8 xs) m 1, .int .i64 (a + 1), .int .u64 (r8.seed.sv xs a.toNat s)], 0⟩])
  | _, _ => none
theorem go (xs : List Int) (a : Nat) (s : Int) :
  runFn Try.prog (orc []) hd0 Dr.std none 0 (bodyOf Try.f125) 62 [2] [.ptr 0 0 0] [⟨.cells [.ro (.ints .u8 xs) xs.length 1, .int .i64 a, .int .u64 s], 0⟩]
  = (bif true && true then bif true && true then bif true && true then bif decide ((↑a : Int) < (↑xs.length : Int)) then bif true && true then bif true && true then bif true && (decide ((0 : Int) ≤ (↑a : Int)) && decide ((↑a : Int) < (↑xs.length : Int))) then bif decide ((↑a : Int).toNat < xs.length) then bif true && true then bif true && true then bif true && true then bif true && true then bif decide (IntKind.i64.wrap ((↑a : Int) + (1 : Int)) ≤ (↑xs.length : Int)) then some (AVal.int IntKind.i64 (IntKind.i64.wrap (gz xs (↑a : Int).toNat)), [{ c := BC.cells [AVal.ro (Cont.ints IntKind.u8 xs) xs.length (1 : Nat), AVal.int IntKind.i64 (IntKind.i64.wrap ((↑a : Int) + (1 : Int))), AVal.int IntKind.u64 (IntKind.u64.wrap (IntKind.u64.wrap (IntKind.u64.wrap (s * (6364136223846793005 : Int)) + IntKind.u64.wrap (IntKind.i64.wrap (gz xs (↑a : Int).toNat))) + (1442695040888963407 : Int)))], ver := (0 : Nat) }]) else bif true && true then some (AVal.int IntKind.i64 (IntKind.i64.wrap (iand.sv IntKind.u64 (ishr.sv IntKind.u64 (IntKind.u64.wrap (IntKind.u64.wrap (IntKind.u64.wrap (s * (6364136223846793005 : Int)) + IntKind.u64.wrap (IntKind.i64.wrap (gz xs (↑a : Int).toNat))) + (1442695040888963407 : Int))) (40 : Int)) (255 : Int))), [{ c := BC.cells [AVal.ro (Cont.ints IntKind.u8 xs) xs.length (1 : Nat), AVal.int IntKind.i64 (IntKind.i64.wrap ((↑a : Int) + (1 : Int))), AVal.int IntKind.u64 (IntKind.u64.wrap (IntKind.u64.wrap (IntKind.u64.wrap (s * (6364136223846793005 : Int)) + IntKind.u64.wrap (IntKind.i64.wrap (gz xs (↑a : Int).toNat))) + (1442695040888963407 : Int)))], ver := (0 : Nat) }]) else none else none else none else none else none else none else none else none else none else bif true && true then bif true && true then bif true && true then bif true && true then bif decide (IntKind.i64.wrap ((↑a : Int) + (1 : Int)) ≤ (↑xs.length : Int)) then some (AVal.int IntKind.i64 (0 : Int), [{ c := BC.cells [AVal.ro (Cont.ints IntKind.u8 xs) xs.length (1 : Nat), AVal.int IntKind.i64 (IntKind.i64.wrap ((↑a : Int) + (1 : Int))), AVal.int IntKind.u64 (IntKind.u64.wrap (IntKind.u64.wrap (IntKind.u64.wrap (s * (6364136223846793005 : Int)) + (0 : Int)) + (1442695040888963407 : Int)))], ver := (0 : Nat) }]) else bif true && true then some (AVal.int IntKind.i64 (IntKind.i64.wrap (iand.sv IntKind.u64 (ishr.sv IntKind.u64 (IntKind.u64.wrap (IntKind.u64.wrap (IntKind.u64.wrap (s * (6364136223846793005 : Int)) + (0 : Int)) + (1442695040888963407 : Int))) (40 : Int)) (255 : Int))), [{ c := BC.cells [AVal.ro (Cont.ints IntKind.u8 xs) xs.length (1 : Nat), AVal.int IntKind.i64 (IntKind.i64.wrap ((↑a : Int) + (1 : Int))), AVal.int IntKind.u64 (IntKind.u64.wrap (IntKind.u64.wrap (IntKind.u64.wrap (s * (6364136223846793005 : Int)) + (0 : Int)) + (1442695040888963407 : Int)))], ver := (0 : Nat) }]) else none else none else none else none else none else none else none else none) := by kernel_rfl
theorem run : ∀ args H v new, R args H = some (true, v, new) → ∃ fuel, runFn Try.prog (orc []) hd0 Dr.std none fuel (bodyOf Try.f125) 62 [2] args H = some (v, new) := by
  intro args H v new h
  unfold R at h
  split at h
  · rename_i xs m a s
    simp only [Option.some.injEq, Prod.mk.injEq, decide_eq_true_eq] at h
    obtain ⟨⟨rfl, h1, h2, h3⟩, rfl, rfl⟩ := h
    obtain ⟨a, rfl⟩ : ∃ q : Nat, a = q := ⟨a.toNat, by omega⟩
    refine ⟨0, ?_⟩
    have wa : IntKind.i64.wrap ((a : Int) + 1) = (a : Int) + 1 := IntWalk.i64_in _ (by omega)
    have g0 : (0 : Int) ≤ (a : Int) := Int.natCast_nonneg _
    rw [go, Int.toNat_natCast]
    unfold r8.nx.sv
    by_cases c : a < xs.length
    · have c2 : (a : Int) < (xs.length : Int) := by omega
      have c3 : (a : Int) + 1 ≤ (xs.length : Int) := by omega
      rw [r8.seed_in c]
      simp -implicitDefEqProofs only [c, c2, c3, wa, g0, Int.toNat_natCast, decide_true, decide_false, Bool.and_self, Bool.or_self, Bool.and_true, Bool.true_and, Bool.and_false, Bool.false_and, Bool.or_true, Bool.true_or, Bool.or_false, Bool.false_or, Bool.not_true, Bool.not_false, cond_true, cond_false]
    · have c2 : ¬ ((a : Int) < (xs.length : Int)) := by omega
      have c3 : ¬ ((a : Int) + 1 ≤ (xs.length : Int)) := by omega
      rw [r8.seed_end c]
      simp -implicitDefEqProofs only [c, c2, c3, wa, g0, Int.toNat_natCast, decide_true, decide_false, Bool.and_self, Bool.or_self, Bool.and_true, Bool.true_and, Bool.and_false, Bool.false_and, Bool.or_true, Bool.true_or, Bool.or_false, Bool.false_or, Bool.not_true, Bool.not_false, cond_true, cond_false]
  · cases h
theorem ok : EntWOk Try.prog ⟨125, R⟩ :=
  entw_ok mixed (A := (orc [])) (orc_ok (by simp)) Try.func125 (by kernel_rfl) (by kernel_rfl) (n := 62) (ts := [2]) (hd := hd0) (dr := Dr.std) (cut := none) (by kernel_rfl) (by kernel_rfl) (by kernel_rfl) run
end bNext

namespace bPick
def R : List AVal → Heap → Option (Bool × AVal × Heap)
  | [.ptr 0 0 0, .int .i64 k], [⟨.cells [.ro (.ints .u8 xs) m 1, .int .i64 a, .int .u64 s], 0⟩] => some (decide (m = xs.length ∧ m ≤ 2000000 ∧ 0 ≤ a ∧ a ≤ 1000000 ∧ 1 ≤ k ∧ k ≤ 200), .int .i64 ((r8.nx.sv xs a.toNat s).tmod k), [⟨.cells [.ro (.ints .u8 xs) m 1, .int .i64 (bif decide (k ≤ 1) then a else a + 1), .int .u64 (bif decide (k ≤ 1) then s else r8.seed.sv xs a.toNat s)], 0⟩])
  | _, _ => none
theorem go (xs : List Int) (a s k : Int) :
  runFn Try.prog (orcW [⟨125, bNext.R⟩] []) hd0 Dr.std none 0 (bodyOf Try.f65) 20 [4] [.ptr 0 0 0, .int .i64 k] [⟨.cells [.ro (.ints .u8 xs) xs.length 1, .int .i64 a, .int .u64 s], 0⟩]
  = (bif true && true then bif decide (k ≤ (1 : Int)) then some (AVal.int IntKind.i64 (0 : Int), [{ c := BC.cells [AVal.ro (Cont.ints IntKind.u8 xs) xs.length (1 : Nat), AVal.int IntKind.i64 a, AVal.int IntKind.u64 s], ver := (0 : Nat) }]) else bif decide (xs.length = xs.length ∧ xs.length ≤ (2000000 : Nat) ∧ (0 : Int) ≤ a ∧ a ≤ (1000000 : Int)) && (true && (true && true)) then bif decide ((200 : Int) < k) then bif decide (xs.length = xs.length ∧ xs.length ≤ (2000000 : Nat) ∧ (0 : Int) ≤ a + (1 : Int) ∧ a + (1 : Int) ≤ (1000000 : Int)) && (true && (true && true)) then bif !k == (0 : Int) then some (AVal.int IntKind.i64 ((IntKind.i64.wrap (IntKind.i64.wrap (r8.nx.sv xs a.toNat s * (256 : Int)) + r8.nx.sv xs (a + (1 : Int)).toNat (r8.seed.sv xs a.toNat s))).tmod k), [{ c := BC.cells [AVal.ro (Cont.ints IntKind.u8 xs) xs.length (1 : Nat), AVal.int IntKind.i64 (a + (1 : Int) + (1 : Int)), AVal.int IntKind.u64 (r8.seed.sv xs (a + (1 : Int)).toNat (r8.seed.sv xs a.toNat s))], ver := (0 : Nat) }]) else none else none else bif !k == (0 : Int) then some (AVal.int IntKind.i64 ((r8.nx.sv xs a.toNat s).tmod k), [{ c := BC.cells [AVal.ro (Cont.ints IntKind.u8 xs) xs.length (1 : Nat), AVal.int IntKind.i64 (a + (1 : Int)), AVal.int IntKind.u64 (r8.seed.sv xs a.toNat s)], ver := (0 : Nat) }]) else none else none else none) := by kernel_rfl
theorem run : ∀ args H v new, R args H = some (true, v, new) → ∃ fuel, runFn Try.prog (orcW [⟨125, bNext.R⟩] []) hd0 Dr.std none fuel (bodyOf Try.f65) 20 [4] args H = some (v, new) := by
  intro args H v new h
  unfold R at h
  split at h
  · rename_i k xs m a s
    simp only [Option.some.injEq, Prod.mk.injEq, decide_eq_true_eq] at h
    obtain ⟨⟨rfl, h1, h2, h3, h4, h5⟩, rfl, rfl⟩ := h
    refine ⟨0, ?_⟩
    have c3 : (k == 0) = false := by rw [beq_eq_false_iff_ne]; omega
    rw [go]
    by_cases c : k ≤ 1
    · obtain rfl : k = 1 := by omega
      have e : (r8.nx.sv xs a.toNat s).tmod 1 = 0 := Int.tmod_one _
      simp -implicitDefEqProofs (disch := omega) only [e, take_one, set_one, decide_eq_true, decide_eq_false, IntWalk.i64_in, beqT, beqF, bneT, bneF, nat_succ, ← Int.natCast_mul, ← Int.natCast_add, Int.toNat_natCast, Int.zero_mul, Int.zero_add, Int.add_zero, Nat.zero_add, Nat.add_zero, Nat.zero_mul, List.length_singleton, List.length_append, List.length_nil, List.length_cons, List.take_length, List.drop_zero, List.replicate_zero, List.take_nil, List.nil_append, Nat.reduceBEq, Nat.reduceMul, Nat.reduceLeDiff, eq_self, and_self, true_and, and_true, decide_true, decide_false, Bool.and_self, Bool.or_self, Bool.and_true, Bool.true_and, Bool.and_false, Bool.false_and, Bool.or_true, Bool.true_or, Bool.or_false, Bool.false_or, Bool.not_true, Bool.not_false, cond_true, cond_false]
    · simp -implicitDefEqProofs (disch := omega) only [c3, take_one, set_one, decide_eq_true, decide_eq_false, IntWalk.i64_in, beqT, beqF, bneT, bneF, nat_succ, ← Int.natCast_mul, ← Int.natCast_add, Int.toNat_natCast, Int.zero_mul, Int.zero_add, Int.add_zero, Nat.zero_add, Nat.add_zero, Nat.zero_mul, List.length_singleton, List.length_append, List.length_nil, List.length_cons, List.take_length, List.drop_zero, List.replicate_zero, List.take_nil, List.nil_append, Nat.reduceBEq, Nat.reduceMul, Nat.reduceLeDiff, eq_self, and_self, true_and, and_true, decide_true, decide_false, Bool.and_self, Bool.or_self, Bool.and_true, Bool.true_and, Bool.and_false, Bool.false_and, Bool.or_true, Bool.true_or, Bool.or_false, Bool.false_or, Bool.not_true, Bool.not_false, cond_true, cond_false]
  · cases h
theorem ok : EntWOk Try.prog ⟨65, R⟩ :=
  entw_ok mixed (A := (orcW [⟨125, bNext.R⟩] [])) (orcW_ok (by simp only [List.mem_cons, List.not_mem_nil, or_false, forall_eq_or_imp, forall_eq]; exact bNext.ok) (by simp)) Try.func65 (by kernel_rfl) (by kernel_rfl) (n := 20) (ts := [4]) (hd := hd0) (dr := Dr.std) (cut := none) (by kernel_rfl) (by kernel_rfl) (by kernel_rfl) run
end bPick

namespace b10Long
def R : List AVal → Option (Bool × AVal × List Blk)
  | [.ro (.ints .u8 xs) m 1, .ro (.ints .u8 ys) k 1] => some (true, .bool (decide ((1048576 : Int) < (m : Int)) || decide ((1048576 : Int) < (k : Int))), [])
  | _ => none
theorem go (xs ys : List Int) (m k : Nat) :
  runFn Try.prog (orc []) hd0 Dr.std none 0 (bodyOf Try.f36) 13 [4] [.ro (.ints .u8 xs) m 1, .ro (.ints .u8 ys) k 1] []
  = (bif decide ((1048576 : Int) < (↑m : Int)) then some (AVal.bool true, []) else some (AVal.bool (decide ((1048576 : Int) < (↑k : Int))), [])) := by kernel_rfl
theorem run : ∀ args v new, R args = some (true, v, new) → ∃ fuel, runFn Try.prog (orc []) hd0 Dr.std none fuel (bodyOf Try.f36) 13 [4] args [] = some (v, new) := by
  intro args v new h
  unfold R at h
  split at h
  · rename_i xs m ys k
    simp only [Option.some.injEq, Prod.mk.injEq, true_and] at h
    obtain ⟨rfl, rfl⟩ := h
    refine ⟨0, ?_⟩
    rw [go]
    cases decide ((1048576 : Int) < (m : Int)) <;> rfl
  · cases h
theorem ok : EntOk Try.prog ⟨36, R⟩ :=
  ent_okA mixed (A := (orc [])) (orc_ok (by simp)) Try.func36 (by kernel_rfl) (by kernel_rfl) (n := 13) (ts := [4]) (hd := hd0) (dr := Dr.std) (cut := none) (by kernel_rfl) (by kernel_rfl) (by kernel_rfl) run
end b10Long

namespace wo
/-- A number that is chosen by a byte, or by its place. -/
def at.sv (xs : List Int) (i : Nat) (n : Int) : Int := bif decide (i < xs.length) then (gz xs i).tmod n else ((i : Int) * 37 + 11).tmod n
theorem at_in {xs : List Int} (h : r8.bytes.sp xs = true) (i : Nat) {n : Int} (hn : 1 ≤ n) : 0 ≤ at.sv xs i n ∧ at.sv xs i n < n := by
  unfold at.sv
  have hb := r8.byte h i
  cases decide (i < xs.length)
  · exact r8.tmod_in (by omega) (by omega)
  · exact r8.tmod_in hb.1 (by omega)
end wo

namespace b10At
def R : List AVal → Option (Bool × AVal × List Blk)
  | [.ro (.ints .u8 xs) m 1, .int .i64 i, .int .i64 n] => some (decide (m = xs.length ∧ 0 ≤ i ∧ i ≤ 1000 ∧ 2 ≤ n ∧ n ≤ 1000) && r8.bytes.sp xs, .int .i64 (wo.at.sv xs i.toNat n), [])
  | _ => none
theorem go (xs : List Int) (i n : Int) :
  runFn Try.prog (orc []) hd0 Dr.std none 0 (bodyOf Try.f37) 25 [6] [.ro (.ints .u8 xs) xs.length 1, .int .i64 i, .int .i64 n] []
  = (bif decide (n ≤ (1 : Int)) then some (AVal.int IntKind.i64 (0 : Int), []) else bif decide (i < (↑xs.length : Int)) then bif true && (decide ((0 : Int) ≤ i) && decide (i < (↑xs.length : Int))) then bif decide (i.toNat < xs.length) then bif !n == (0 : Int) then some (AVal.int IntKind.i64 ((IntKind.i64.wrap (gz xs i.toNat)).tmod n), []) else none else none else none else bif !n == (0 : Int) then some (AVal.int IntKind.i64 ((IntKind.i64.wrap (IntKind.i64.wrap (i * (37 : Int)) + (11 : Int))).tmod n), []) else none) := by kernel_rfl
theorem run : ∀ args v new, R args = some (true, v, new) → ∃ fuel, runFn Try.prog (orc []) hd0 Dr.std none fuel (bodyOf Try.f37) 25 [6] args [] = some (v, new) := by
  intro args v new h
  unfold R at h
  split at h
  · rename_i xs m i n
    simp only [Option.some.injEq, Prod.mk.injEq, Bool.and_eq_true, decide_eq_true_eq] at h
    obtain ⟨⟨⟨rfl, h1, h2, h3, h4⟩, hb⟩, rfl, rfl⟩ := h
    obtain ⟨i, rfl⟩ : ∃ q : Nat, i = q := ⟨i.toNat, by omega⟩
    have c3 : (n == 0) = false := by rw [beq_eq_false_iff_ne]; omega
    have hg := r8.byte hb i
    refine ⟨0, ?_⟩
    rw [go, Int.toNat_natCast]
    unfold wo.at.sv
    by_cases c : i < xs.length
    · simp -implicitDefEqProofs (disch := omega) only [c3, take_one, set_one, decide_eq_true, decide_eq_false, IntWalk.i64_in, beqT, beqF, bneT, bneF, nat_succ, Int.toNat_natCast, Int.zero_mul, Int.zero_add, Int.add_zero, Nat.zero_add, Nat.add_zero, Nat.zero_mul, List.length_singleton, List.length_append, List.length_nil, List.length_cons, List.take_length, List.drop_zero, List.replicate_zero, List.take_nil, List.nil_append, Nat.reduceBEq, Nat.reduceMul, Nat.reduceLeDiff, eq_self, and_self, true_and, and_true, decide_true, decide_false, Bool.and_self, Bool.or_self, Bool.and_true, Bool.true_and, Bool.and_false, Bool.false_and, Bool.or_true, Bool.true_or, Bool.or_false, Bool.false_or, Bool.not_true, Bool.not_false, cond_true, cond_false]
    · simp -implicitDefEqProofs (disch := omega) only [c3, take_one, set_one, decide_eq_true, decide_eq_false, IntWalk.i64_in, beqT, beqF, bneT, bneF, nat_succ, Int.toNat_natCast, Int.zero_mul, Int.zero_add, Int.add_zero, Nat.zero_add, Nat.add_zero, Nat.zero_mul, List.length_singleton, List.length_append, List.length_nil, List.length_cons, List.take_length, List.drop_zero, List.replicate_zero, List.take_nil, List.nil_append, Nat.reduceBEq, Nat.reduceMul, Nat.reduceLeDiff, eq_self, and_self, true_and, and_true, decide_true, decide_false, Bool.and_self, Bool.or_self, Bool.and_true, Bool.true_and, Bool.and_false, Bool.false_and, Bool.or_true, Bool.true_or, Bool.or_false, Bool.false_or, Bool.not_true, Bool.not_false, cond_true, cond_false]
  · cases h
theorem ok : EntOk Try.prog ⟨37, R⟩ :=
  ent_okA mixed (A := (orc [])) (orc_ok (by simp)) Try.func37 (by kernel_rfl) (by kernel_rfl) (n := 25) (ts := [6]) (hd := hd0) (dr := Dr.std) (cut := none) (by kernel_rfl) (by kernel_rfl) (by kernel_rfl) run
end b10At

namespace wo
def ins.sv (os : List Int) (y : Nat) (v : Int) : List Int := os.take y ++ ([v] ++ os.drop y)
theorem ins_perm (os : List Int) (y : Nat) (v : Int) : List.Perm (ins.sv os y v) (v :: os) := by
  have h : List.Perm (os.take y ++ v :: os.drop y) (v :: (os.take y ++ os.drop y)) := List.perm_middle
  rw [List.take_append_drop] at h
  exact h
def yo.sv (xs : List Int) (k a : Nat) (s : Int) : Nat := ((r8.nx.sv xs a s).tmod ((k : Int) + 1)).toNat
def ka.sv (k a : Nat) : Nat := bif decide (k = 0) then a else a + 1
def kx.sv (xs : List Int) (k a : Nat) (s : Int) : Int := bif decide (k = 0) then s else r8.seed.sv xs a s
def od.sv (xs : List Int) : Nat → Nat → Nat → Int → List Int → List Int
  | 0, _, _, _, os => os
  | d + 1, k, a, s, os => od.sv xs d (k + 1) (ka.sv k a) (kx.sv xs k a s) (ins.sv os (yo.sv xs k a s) k)
def oa.sv : Nat → Nat → Nat → Nat
  | 0, _, a => a
  | d + 1, k, a => oa.sv d (k + 1) (ka.sv k a)
def ox.sv (xs : List Int) : Nat → Nat → Nat → Int → Int
  | 0, _, _, s => s
  | d + 1, k, a, s => ox.sv xs d (k + 1) (ka.sv k a) (kx.sv xs k a s)
/-- An order of the first k. -/
structure Ord (k : Nat) (os : List Int) : Prop where
  len : os.length = k
  ran : ∀ x ∈ os, 0 ≤ x ∧ x < (k : Int)
  nd : os.Nodup
  all : ∀ j : Nat, j < k → (j : Int) ∈ os
theorem ord_ins {k : Nat} {os : List Int} (h : Ord k os) (y : Nat) : Ord (k + 1) (ins.sv os y k) := by
  have p := ins_perm os y k
  refine ⟨?_, ?_, ?_, ?_⟩
  · rw [p.length_eq, List.length_cons, h.len]
  · intro x hx
    rcases List.mem_cons.1 (p.mem_iff.1 hx) with rfl | hx
    · omega
    · have := h.ran x hx; omega
  · rw [p.nodup_iff, List.nodup_cons]
    exact ⟨fun hm => by have := h.ran _ hm; omega, h.nd⟩
  · intro j hj
    rw [p.mem_iff, List.mem_cons]
    by_cases e : j = k
    · left; rw [e]
    · right; exact h.all j (by omega)
theorem od_ord (xs : List Int) : ∀ (d k a : Nat) (s : Int) (os : List Int), Ord k os → Ord (k + d) (od.sv xs d k a s os)
  | 0, k, _, _, os, h => h
  | d + 1, k, a, s, os, h => by
    rw [od.sv, show k + (d + 1) = k + 1 + d by omega]
    exact od_ord xs d (k + 1) _ _ _ (ord_ins h _)
theorem uniq_ord {n : Int} : ∀ {xs pre : List Int}, (∀ x ∈ xs, 0 ≤ x ∧ x < n) → xs.Nodup → (∀ x ∈ xs, x ∉ pre) → uniq.sq n pre xs = true
  | [], _, _, _, _ => rfl
  | y :: r, pre, h, nd, dj => by
    have hy := h y (List.mem_cons_self ..)
    rw [List.nodup_cons] at nd
    have hn : pre.any (has.sp y) = false := by
      rw [List.any_eq_false]
      intro z hz e
      simp only [has.sp, beq_iff_eq] at e
      subst e
      exact dj _ (List.mem_cons_self ..) hz
    simp only [uniq.sq, hn, Bool.not_false, Bool.and_true, Bool.and_eq_true, decide_eq_true_eq]
    refine ⟨by omega, uniq_ord (fun x hx => h x (List.mem_cons_of_mem _ hx)) nd.2 fun x hx hm => ?_⟩
    rcases List.mem_append.1 hm with hm | hm
    · exact dj x (List.mem_cons_of_mem _ hx) hm
    · rw [List.mem_singleton] at hm; subst hm; exact nd.1 hx
end wo

namespace l07DrawOrder
def R : List AVal → Heap → Option (Bool × AVal × Heap)
  | [.ptr 0 0 0, .int .i64 m], [⟨.cells [.ro (.ints .u8 xs) l 1, .int .i64 a, .int .u64 s], 0⟩] => some (decide (l = xs.length ∧ l ≤ 2000000 ∧ 0 ≤ a ∧ a ≤ 100 ∧ 0 ≤ m ∧ m ≤ 8) && r8.bytes.sp xs, .ro (.ints .i64 (wo.od.sv xs m.toNat 0 a.toNat s [])) m.toNat 1, [⟨.cells [.ro (.ints .u8 xs) l 1, .int .i64 ((wo.oa.sv m.toNat 0 a.toNat : Nat) : Int), .int .u64 (wo.ox.sv xs m.toNat 0 a.toNat s)], 0⟩])
  | _, _ => none
def hd : Nat → Head := fun _ => ⟨[0, 1, 5, 6], some 0⟩
noncomputable def L (f n : Nat) (s : State) := loopAt Try.prog (orcW [⟨65, bPick.R⟩] []) hd Dr.std 1 f (bodyOf Try.f101) 0 [true, true, false, true] (retK Try.prog [4] 1 (some 0)) n s
theorem start (xs : List Int) (m a s : Int) (f : Nat) :
  runFn Try.prog (orcW [⟨65, bPick.R⟩] []) hd Dr.std (some 0) f (bodyOf Try.f101) 34 [4] [.ptr 0 0 0, .int .i64 m] [⟨.cells [.ro (.ints .u8 xs) xs.length 1, .int .i64 a, .int .u64 s], 0⟩]
  = (bif true && true then L f f (mkS (34 : Nat) [((0 : Nat), AVal.ptr (0 : Nat) (0 : Nat) (0 : Nat)), ((1 : Nat), AVal.int IntKind.i64 m), ((5 : Nat), AVal.ro (Cont.ints IntKind.i64 (List.replicate (0 : Nat) (0 : Int))) (0 : Nat) (1 : Nat)), ((6 : Nat), AVal.int IntKind.i64 (0 : Int))] [{ c := BC.cells [AVal.ro (Cont.ints IntKind.u8 xs) xs.length (1 : Nat), AVal.int IntKind.i64 a, AVal.int IntKind.u64 s], ver := (0 : Nat) }]) else none) := by kernel_rfl
theorem round (xs os : List Int) (m a s k : Int) (q f n : Nat) :
  L f (n + 1) (mkS 34 [(0, .ptr 0 0 0), (1, .int .i64 m), (5, .ro (.ints .i64 os) q 1), (6, .int .i64 k)] [⟨.cells [.ro (.ints .u8 xs) xs.length 1, .int .i64 a, .int .u64 s], 0⟩])
  = (bif decide (k < m) then bif decide (xs.length = xs.length ∧ xs.length ≤ (2000000 : Nat) ∧ (0 : Int) ≤ a ∧ a ≤ (1000000 : Int) ∧ (1 : Int) ≤ IntKind.i64.wrap (k + (1 : Int)) ∧ IntKind.i64.wrap (k + (1 : Int)) ≤ (200 : Int)) && (true && (true && true)) then bif true && (decide ((0 : Int) ≤ (r8.nx.sv xs a.toNat s).tmod (IntKind.i64.wrap (k + (1 : Int)))) && decide ((r8.nx.sv xs a.toNat s).tmod (IntKind.i64.wrap (k + (1 : Int))) ≤ (↑q : Int)) && true) then bif (1 : Nat) == (1 : Nat) && (1 : Nat) == (1 : Nat) && (true && (true && true) && (true && (decide ((0 : Nat) + (List.take (((r8.nx.sv xs a.toNat s).tmod (IntKind.i64.wrap (k + (1 : Int)))).toNat - (0 : Nat)) (List.take (((r8.nx.sv xs a.toNat s).tmod (IntKind.i64.wrap (k + (1 : Int)))).toNat - (0 : Nat)) (List.drop (0 : Nat) os))).length ≤ (4611686018427387904 : Nat)) && decide (((0 : Nat) + (List.take (((r8.nx.sv xs a.toNat s).tmod (IntKind.i64.wrap (k + (1 : Int)))).toNat - (0 : Nat)) (List.take (((r8.nx.sv xs a.toNat s).tmod (IntKind.i64.wrap (k + (1 : Int)))).toNat - (0 : Nat)) (List.drop (0 : Nat) os))).length) * (8 : Nat) ≤ (140737488355328 : Nat))))) then bif (1 : Nat) == (1 : Nat) && (1 : Nat) == (1 : Nat) && (true && (true && true) && (true && true && (decide ((0 : Nat) + (List.take (((r8.nx.sv xs a.toNat s).tmod (IntKind.i64.wrap (k + (1 : Int)))).toNat - (0 : Nat)) (List.take (((r8.nx.sv xs a.toNat s).tmod (IntKind.i64.wrap (k + (1 : Int)))).toNat - (0 : Nat)) (List.drop (0 : Nat) os))).length + (List.take (1 : Nat) (List.drop (0 : Nat) ((List.replicate (1 : Nat) (0 : Int)).set (0 : Nat) k))).length ≤ (4611686018427387904 : Nat)) && decide (((0 : Nat) + (List.take (((r8.nx.sv xs a.toNat s).tmod (IntKind.i64.wrap (k + (1 : Int)))).toNat - (0 : Nat)) (List.take (((r8.nx.sv xs a.toNat s).tmod (IntKind.i64.wrap (k + (1 : Int)))).toNat - (0 : Nat)) (List.drop (0 : Nat) os))).length + (List.take (1 : Nat) (List.drop (0 : Nat) ((List.replicate (1 : Nat) (0 : Int)).set (0 : Nat) k))).length) * (8 : Nat) ≤ (140737488355328 : Nat))))) then bif true && (true && (decide ((0 : Int) ≤ (r8.nx.sv xs a.toNat s).tmod (IntKind.i64.wrap (k + (1 : Int)))) && decide ((r8.nx.sv xs a.toNat s).tmod (IntKind.i64.wrap (k + (1 : Int))) ≤ (↑q : Int)))) then bif (1 : Nat) == (1 : Nat) && (1 : Nat) == (1 : Nat) && (true && (true && true) && (true && (decide ((0 : Nat) + (List.take (((r8.nx.sv xs a.toNat s).tmod (IntKind.i64.wrap (k + (1 : Int)))).toNat - (0 : Nat)) (List.take (((r8.nx.sv xs a.toNat s).tmod (IntKind.i64.wrap (k + (1 : Int)))).toNat - (0 : Nat)) (List.drop (0 : Nat) os))).length + (List.take (1 : Nat) (List.drop (0 : Nat) ((List.replicate (1 : Nat) (0 : Int)).set (0 : Nat) k))).length + (List.take (q - ((r8.nx.sv xs a.toNat s).tmod (IntKind.i64.wrap (k + (1 : Int)))).toNat) (List.take (q - ((r8.nx.sv xs a.toNat s).tmod (IntKind.i64.wrap (k + (1 : Int)))).toNat) (List.drop ((r8.nx.sv xs a.toNat s).tmod (IntKind.i64.wrap (k + (1 : Int)))).toNat os))).length ≤ (4611686018427387904 : Nat)) && decide (((0 : Nat) + (List.take (((r8.nx.sv xs a.toNat s).tmod (IntKind.i64.wrap (k + (1 : Int)))).toNat - (0 : Nat)) (List.take (((r8.nx.sv xs a.toNat s).tmod (IntKind.i64.wrap (k + (1 : Int)))).toNat - (0 : Nat)) (List.drop (0 : Nat) os))).length + (List.take (1 : Nat) (List.drop (0 : Nat) ((List.replicate (1 : Nat) (0 : Int)).set (0 : Nat) k))).length + (List.take (q - ((r8.nx.sv xs a.toNat s).tmod (IntKind.i64.wrap (k + (1 : Int)))).toNat) (List.take (q - ((r8.nx.sv xs a.toNat s).tmod (IntKind.i64.wrap (k + (1 : Int)))).toNat) (List.drop ((r8.nx.sv xs a.toNat s).tmod (IntKind.i64.wrap (k + (1 : Int)))).toNat os))).length) * (8 : Nat) ≤ (140737488355328 : Nat))))) then L f n (mkS (34 : Nat) [((0 : Nat), AVal.ptr (0 : Nat) (0 : Nat) (0 : Nat)), ((1 : Nat), AVal.int IntKind.i64 m), ((5 : Nat), AVal.ro (Cont.ints IntKind.i64 (List.take ((0 : Nat) + (List.take (((r8.nx.sv xs a.toNat s).tmod (IntKind.i64.wrap (k + (1 : Int)))).toNat - (0 : Nat)) (List.take (((r8.nx.sv xs a.toNat s).tmod (IntKind.i64.wrap (k + (1 : Int)))).toNat - (0 : Nat)) (List.drop (0 : Nat) os))).length + (List.take (1 : Nat) (List.drop (0 : Nat) ((List.replicate (1 : Nat) (0 : Int)).set (0 : Nat) k))).length) (List.take ((0 : Nat) + (List.take (((r8.nx.sv xs a.toNat s).tmod (IntKind.i64.wrap (k + (1 : Int)))).toNat - (0 : Nat)) (List.take (((r8.nx.sv xs a.toNat s).tmod (IntKind.i64.wrap (k + (1 : Int)))).toNat - (0 : Nat)) (List.drop (0 : Nat) os))).length) (List.take (0 : Nat) (List.replicate (0 : Nat) (0 : Int)) ++ List.take (((r8.nx.sv xs a.toNat s).tmod (IntKind.i64.wrap (k + (1 : Int)))).toNat - (0 : Nat)) (List.take (((r8.nx.sv xs a.toNat s).tmod (IntKind.i64.wrap (k + (1 : Int)))).toNat - (0 : Nat)) (List.drop (0 : Nat) os))) ++ List.take (1 : Nat) (List.drop (0 : Nat) ((List.replicate (1 : Nat) (0 : Int)).set (0 : Nat) k))) ++ List.take (q - ((r8.nx.sv xs a.toNat s).tmod (IntKind.i64.wrap (k + (1 : Int)))).toNat) (List.take (q - ((r8.nx.sv xs a.toNat s).tmod (IntKind.i64.wrap (k + (1 : Int)))).toNat) (List.drop ((r8.nx.sv xs a.toNat s).tmod (IntKind.i64.wrap (k + (1 : Int)))).toNat os)))) ((0 : Nat) + (List.take (((r8.nx.sv xs a.toNat s).tmod (IntKind.i64.wrap (k + (1 : Int)))).toNat - (0 : Nat)) (List.take (((r8.nx.sv xs a.toNat s).tmod (IntKind.i64.wrap (k + (1 : Int)))).toNat - (0 : Nat)) (List.drop (0 : Nat) os))).length + (List.take (1 : Nat) (List.drop (0 : Nat) ((List.replicate (1 : Nat) (0 : Int)).set (0 : Nat) k))).length + (List.take (q - ((r8.nx.sv xs a.toNat s).tmod (IntKind.i64.wrap (k + (1 : Int)))).toNat) (List.take (q - ((r8.nx.sv xs a.toNat s).tmod (IntKind.i64.wrap (k + (1 : Int)))).toNat) (List.drop ((r8.nx.sv xs a.toNat s).tmod (IntKind.i64.wrap (k + (1 : Int)))).toNat os))).length) (1 : Nat)), ((6 : Nat), AVal.int IntKind.i64 (IntKind.i64.wrap (k + (1 : Int))))] [{ c := BC.cells [AVal.ro (Cont.ints IntKind.u8 xs) xs.length (1 : Nat), AVal.int IntKind.i64 (bif decide (IntKind.i64.wrap (k + (1 : Int)) ≤ (1 : Int)) then a else a + (1 : Int)), AVal.int IntKind.u64 (bif decide (IntKind.i64.wrap (k + (1 : Int)) ≤ (1 : Int)) then s else r8.seed.sv xs a.toNat s)], ver := (0 : Nat) }]) else none else none else none else none else none else none else some (AVal.ro (Cont.ints IntKind.i64 os) q (1 : Nat), [{ c := BC.cells [AVal.ro (Cont.ints IntKind.u8 xs) xs.length (1 : Nat), AVal.int IntKind.i64 a, AVal.int IntKind.u64 s], ver := (0 : Nat) }])) := by kernel_rfl
theorem loop (xs : List Int) (m f : Nat) (hm : m ≤ 8) (hx : xs.length ≤ 2000000) (hb : r8.bytes.sp xs = true) : ∀ (d k n a : Nat) (s : Int) (os : List Int), k + d = m → d < n → os.length = k → a + d ≤ 1000 →
    L f n (mkS 34 [(0, .ptr 0 0 0), (1, .int .i64 ((m : Nat) : Int)), (5, .ro (.ints .i64 os) k 1), (6, .int .i64 ((k : Nat) : Int))] [⟨.cells [.ro (.ints .u8 xs) xs.length 1, .int .i64 ((a : Nat) : Int), .int .u64 s], 0⟩]) = some (.ro (.ints .i64 (wo.od.sv xs d k a s os)) m 1, [⟨.cells [.ro (.ints .u8 xs) xs.length 1, .int .i64 ((wo.oa.sv d k a : Nat) : Int), .int .u64 (wo.ox.sv xs d k a s)], 0⟩]) := by
  intro d
  induction d with
  | zero =>
    intro k n a s os hk hn hl ha
    obtain ⟨n, rfl⟩ : ∃ k, n = k + 1 := ⟨n - 1, by omega⟩
    obtain rfl : k = m := by omega
    rw [round]
    simp only [wo.od.sv, wo.oa.sv, wo.ox.sv]
    simp -implicitDefEqProofs (disch := omega) only [take_one, set_one, decide_eq_true, decide_eq_false, IntWalk.i64_in, beqT, beqF, bneT, bneF, nat_succ, ← Int.natCast_mul, ← Int.natCast_add, Int.toNat_natCast, Int.zero_mul, Int.zero_add, Int.add_zero, Nat.zero_add, Nat.add_zero, Nat.zero_mul, List.length_singleton, List.length_append, List.length_nil, List.length_cons, List.take_length, List.drop_zero, List.replicate_zero, List.take_nil, List.nil_append, Nat.reduceBEq, Nat.reduceMul, Nat.reduceLeDiff, eq_self, and_self, true_and, and_true, decide_true, decide_false, Bool.and_self, Bool.or_self, Bool.and_true, Bool.true_and, Bool.and_false, Bool.false_and, Bool.or_true, Bool.true_or, Bool.or_false, Bool.false_or, Bool.not_true, Bool.not_false, cond_true, cond_false]
  | succ d ih =>
    intro k n a s os hk hn hl ha
    obtain ⟨n, rfl⟩ : ∃ k, n = k + 1 := ⟨n - 1, by omega⟩
    have hka : wo.ka.sv k a ≤ a + 1 := by unfold wo.ka.sv; cases decide (k = 0) <;> simp only [cond_true, cond_false] <;> omega
    have hn1 := r8.nx_ok hb a s
    have t1 := r8.tmod_in (n := (k : Int) + 1) hn1.1 (by omega)
    have hy : ((wo.yo.sv xs k a s : Nat) : Int) = (r8.nx.sv xs a s).tmod ((k : Int) + 1) := by unfold wo.yo.sv; omega
    have hy2 : (r8.nx.sv xs a s).tmod (((k + 1 : Nat) : Nat) : Int) = ((wo.yo.sv xs k a s : Nat) : Int) := by rw [hy]; rfl
    have g := ih (k + 1) n (wo.ka.sv k a) (wo.kx.sv xs k a s) (wo.ins.sv os (wo.yo.sv xs k a s) k) (by omega) (by omega) (by rw [(wo.ins_perm _ _ _).length_eq, List.length_cons, hl]) (by omega)
    obtain ⟨y, hyy⟩ : ∃ y, wo.yo.sv xs k a s = y := ⟨_, rfl⟩
    simp only [wo.od.sv, wo.oa.sv, wo.ox.sv]
    rw [hyy] at hy2 hy g ⊢
    have ly : y ≤ k := by omega
    have lA : (List.take y os).length = y := by rw [List.length_take]; omega
    have tA : List.take y (List.take y os) = List.take y os := by rw [List.take_take, Nat.min_self]
    have tB : List.take (y + 1) (List.take y os ++ [(k : Int)]) = List.take y os ++ [(k : Int)] := List.take_of_length_le (by rw [List.length_append, List.length_singleton]; omega)
    have lC : (List.drop y os).length = k - y := by rw [List.length_drop]; omega
    have tC : List.take (k - y) (List.drop y os) = List.drop y os := List.take_of_length_le (by omega)
    have eC : y + 1 + (k - y) = k + 1 := by omega
    rw [round]
    by_cases h0 : k = 0
    · rw [show wo.ka.sv k a = a from by rw [wo.ka.sv, decide_eq_true h0, cond_true], show wo.kx.sv xs k a s = s from by rw [wo.kx.sv, decide_eq_true h0, cond_true]] at g ⊢
      simp only [wo.ins.sv] at g ⊢
      simp -implicitDefEqProofs (disch := omega) only [hy2, Nat.sub_zero, List.append_assoc, lA, tA, tB, lC, tC, eC, take_one, set_one, decide_eq_true, decide_eq_false, IntWalk.i64_in, beqT, beqF, bneT, bneF, nat_succ, ← Int.natCast_mul, ← Int.natCast_add, Int.toNat_natCast, Int.zero_mul, Int.zero_add, Int.add_zero, Nat.zero_add, Nat.add_zero, Nat.zero_mul, List.length_singleton, List.length_append, List.length_nil, List.length_cons, List.take_length, List.drop_zero, List.replicate_zero, List.take_nil, List.nil_append, Nat.reduceBEq, Nat.reduceMul, Nat.reduceLeDiff, eq_self, and_self, true_and, and_true, decide_true, decide_false, Bool.and_self, Bool.or_self, Bool.and_true, Bool.true_and, Bool.and_false, Bool.false_and, Bool.or_true, Bool.true_or, Bool.or_false, Bool.false_or, Bool.not_true, Bool.not_false, cond_true, cond_false]
      exact g
    · rw [show wo.ka.sv k a = a + 1 from by rw [wo.ka.sv, decide_eq_false h0, cond_false], show wo.kx.sv xs k a s = r8.seed.sv xs a s from by rw [wo.kx.sv, decide_eq_false h0, cond_false]] at g ⊢
      simp only [wo.ins.sv] at g ⊢
      simp -implicitDefEqProofs (disch := omega) only [hy2, Nat.sub_zero, List.append_assoc, lA, tA, tB, lC, tC, eC, take_one, set_one, decide_eq_true, decide_eq_false, IntWalk.i64_in, beqT, beqF, bneT, bneF, nat_succ, ← Int.natCast_mul, ← Int.natCast_add, Int.toNat_natCast, Int.zero_mul, Int.zero_add, Int.add_zero, Nat.zero_add, Nat.add_zero, Nat.zero_mul, List.length_singleton, List.length_append, List.length_nil, List.length_cons, List.take_length, List.drop_zero, List.replicate_zero, List.take_nil, List.nil_append, Nat.reduceBEq, Nat.reduceMul, Nat.reduceLeDiff, eq_self, and_self, true_and, and_true, decide_true, decide_false, Bool.and_self, Bool.or_self, Bool.and_true, Bool.true_and, Bool.and_false, Bool.false_and, Bool.or_true, Bool.true_or, Bool.or_false, Bool.false_or, Bool.not_true, Bool.not_false, cond_true, cond_false]
      exact g
theorem run : ∀ args H v new, R args H = some (true, v, new) → ∃ fuel, runFn Try.prog (orcW [⟨65, bPick.R⟩] []) hd Dr.std (some 0) fuel (bodyOf Try.f101) 34 [4] args H = some (v, new) := by
  intro args H v new h
  unfold R at h
  split at h
  · rename_i m xs l a s
    simp only [Option.some.injEq, Prod.mk.injEq, Bool.and_eq_true, decide_eq_true_eq] at h
    obtain ⟨⟨⟨rfl, h1, h2, h3, h4, h5⟩, hb⟩, rfl, rfl⟩ := h
    obtain ⟨m, rfl⟩ : ∃ q : Nat, m = q := ⟨m.toNat, by omega⟩
    obtain ⟨a, rfl⟩ : ∃ q : Nat, a = q := ⟨a.toNat, by omega⟩
    obtain ⟨F, hF⟩ : ∃ F : Nat, F = 100 := ⟨100, rfl⟩
    refine ⟨F, ?_⟩
    have g := loop xs m F (by omega) h1 hb m 0 F a s [] (by omega) (by omega) rfl (by omega)
    rw [start]
    exact g
  · cases h
theorem ok : EntWOk Try.prog ⟨101, R⟩ :=
  entw_ok mixed (A := (orcW [⟨65, bPick.R⟩] [])) (orcW_ok (by simp only [List.mem_cons, List.not_mem_nil, or_false, forall_eq_or_imp, forall_eq]; exact bPick.ok) (by simp)) Try.func101 (by kernel_rfl) (by kernel_rfl) (n := 34) (ts := [4]) (hd := hd) (dr := Dr.std) (cut := (some 0)) (by kernel_rfl) (by kernel_rfl) (by kernel_rfl) run
end l07DrawOrder

namespace l05DrawOrder
def R : List AVal → Heap → Option (Bool × AVal × Heap)
  | [.ptr 0 0 0, .int .i64 m], [⟨.cells [.ro (.ints .u8 xs) l 1, .int .i64 a, .int .u64 s], 0⟩] => some (decide (l = xs.length ∧ l ≤ 2000000 ∧ 0 ≤ a ∧ a ≤ 100 ∧ 0 ≤ m ∧ m ≤ 8) && r8.bytes.sp xs, .ro (.ints .i64 (wo.od.sv xs m.toNat 0 a.toNat s [])) m.toNat 1, [⟨.cells [.ro (.ints .u8 xs) l 1, .int .i64 ((wo.oa.sv m.toNat 0 a.toNat : Nat) : Int), .int .u64 (wo.ox.sv xs m.toNat 0 a.toNat s)], 0⟩])
  | _, _ => none
def hd : Nat → Head := fun _ => ⟨[0, 1, 5, 6], some 0⟩
noncomputable def L (f n : Nat) (s : State) := loopAt Try.prog (orcW [⟨65, bPick.R⟩] []) hd Dr.std 1 f (bodyOf Try.f93) 0 [true, true, false, true] (retK Try.prog [4] 1 (some 0)) n s
theorem start (xs : List Int) (m a s : Int) (f : Nat) :
  runFn Try.prog (orcW [⟨65, bPick.R⟩] []) hd Dr.std (some 0) f (bodyOf Try.f93) 34 [4] [.ptr 0 0 0, .int .i64 m] [⟨.cells [.ro (.ints .u8 xs) xs.length 1, .int .i64 a, .int .u64 s], 0⟩]
  = (bif true && true then L f f (mkS (34 : Nat) [((0 : Nat), AVal.ptr (0 : Nat) (0 : Nat) (0 : Nat)), ((1 : Nat), AVal.int IntKind.i64 m), ((5 : Nat), AVal.ro (Cont.ints IntKind.i64 (List.replicate (0 : Nat) (0 : Int))) (0 : Nat) (1 : Nat)), ((6 : Nat), AVal.int IntKind.i64 (0 : Int))] [{ c := BC.cells [AVal.ro (Cont.ints IntKind.u8 xs) xs.length (1 : Nat), AVal.int IntKind.i64 a, AVal.int IntKind.u64 s], ver := (0 : Nat) }]) else none) := by kernel_rfl
theorem round (xs os : List Int) (m a s k : Int) (q f n : Nat) :
  L f (n + 1) (mkS 34 [(0, .ptr 0 0 0), (1, .int .i64 m), (5, .ro (.ints .i64 os) q 1), (6, .int .i64 k)] [⟨.cells [.ro (.ints .u8 xs) xs.length 1, .int .i64 a, .int .u64 s], 0⟩])
  = (bif decide (k < m) then bif decide (xs.length = xs.length ∧ xs.length ≤ (2000000 : Nat) ∧ (0 : Int) ≤ a ∧ a ≤ (1000000 : Int) ∧ (1 : Int) ≤ IntKind.i64.wrap (k + (1 : Int)) ∧ IntKind.i64.wrap (k + (1 : Int)) ≤ (200 : Int)) && (true && (true && true)) then bif true && (decide ((0 : Int) ≤ (r8.nx.sv xs a.toNat s).tmod (IntKind.i64.wrap (k + (1 : Int)))) && decide ((r8.nx.sv xs a.toNat s).tmod (IntKind.i64.wrap (k + (1 : Int))) ≤ (↑q : Int)) && true) then bif (1 : Nat) == (1 : Nat) && (1 : Nat) == (1 : Nat) && (true && (true && true) && (true && (decide ((0 : Nat) + (List.take (((r8.nx.sv xs a.toNat s).tmod (IntKind.i64.wrap (k + (1 : Int)))).toNat - (0 : Nat)) (List.take (((r8.nx.sv xs a.toNat s).tmod (IntKind.i64.wrap (k + (1 : Int)))).toNat - (0 : Nat)) (List.drop (0 : Nat) os))).length ≤ (4611686018427387904 : Nat)) && decide (((0 : Nat) + (List.take (((r8.nx.sv xs a.toNat s).tmod (IntKind.i64.wrap (k + (1 : Int)))).toNat - (0 : Nat)) (List.take (((r8.nx.sv xs a.toNat s).tmod (IntKind.i64.wrap (k + (1 : Int)))).toNat - (0 : Nat)) (List.drop (0 : Nat) os))).length) * (8 : Nat) ≤ (140737488355328 : Nat))))) then bif (1 : Nat) == (1 : Nat) && (1 : Nat) == (1 : Nat) && (true && (true && true) && (true && true && (decide ((0 : Nat) + (List.take (((r8.nx.sv xs a.toNat s).tmod (IntKind.i64.wrap (k + (1 : Int)))).toNat - (0 : Nat)) (List.take (((r8.nx.sv xs a.toNat s).tmod (IntKind.i64.wrap (k + (1 : Int)))).toNat - (0 : Nat)) (List.drop (0 : Nat) os))).length + (List.take (1 : Nat) (List.drop (0 : Nat) ((List.replicate (1 : Nat) (0 : Int)).set (0 : Nat) k))).length ≤ (4611686018427387904 : Nat)) && decide (((0 : Nat) + (List.take (((r8.nx.sv xs a.toNat s).tmod (IntKind.i64.wrap (k + (1 : Int)))).toNat - (0 : Nat)) (List.take (((r8.nx.sv xs a.toNat s).tmod (IntKind.i64.wrap (k + (1 : Int)))).toNat - (0 : Nat)) (List.drop (0 : Nat) os))).length + (List.take (1 : Nat) (List.drop (0 : Nat) ((List.replicate (1 : Nat) (0 : Int)).set (0 : Nat) k))).length) * (8 : Nat) ≤ (140737488355328 : Nat))))) then bif true && (true && (decide ((0 : Int) ≤ (r8.nx.sv xs a.toNat s).tmod (IntKind.i64.wrap (k + (1 : Int)))) && decide ((r8.nx.sv xs a.toNat s).tmod (IntKind.i64.wrap (k + (1 : Int))) ≤ (↑q : Int)))) then bif (1 : Nat) == (1 : Nat) && (1 : Nat) == (1 : Nat) && (true && (true && true) && (true && (decide ((0 : Nat) + (List.take (((r8.nx.sv xs a.toNat s).tmod (IntKind.i64.wrap (k + (1 : Int)))).toNat - (0 : Nat)) (List.take (((r8.nx.sv xs a.toNat s).tmod (IntKind.i64.wrap (k + (1 : Int)))).toNat - (0 : Nat)) (List.drop (0 : Nat) os))).length + (List.take (1 : Nat) (List.drop (0 : Nat) ((List.replicate (1 : Nat) (0 : Int)).set (0 : Nat) k))).length + (List.take (q - ((r8.nx.sv xs a.toNat s).tmod (IntKind.i64.wrap (k + (1 : Int)))).toNat) (List.take (q - ((r8.nx.sv xs a.toNat s).tmod (IntKind.i64.wrap (k + (1 : Int)))).toNat) (List.drop ((r8.nx.sv xs a.toNat s).tmod (IntKind.i64.wrap (k + (1 : Int)))).toNat os))).length ≤ (4611686018427387904 : Nat)) && decide (((0 : Nat) + (List.take (((r8.nx.sv xs a.toNat s).tmod (IntKind.i64.wrap (k + (1 : Int)))).toNat - (0 : Nat)) (List.take (((r8.nx.sv xs a.toNat s).tmod (IntKind.i64.wrap (k + (1 : Int)))).toNat - (0 : Nat)) (List.drop (0 : Nat) os))).length + (List.take (1 : Nat) (List.drop (0 : Nat) ((List.replicate (1 : Nat) (0 : Int)).set (0 : Nat) k))).length + (List.take (q - ((r8.nx.sv xs a.toNat s).tmod (IntKind.i64.wrap (k + (1 : Int)))).toNat) (List.take (q - ((r8.nx.sv xs a.toNat s).tmod (IntKind.i64.wrap (k + (1 : Int)))).toNat) (List.drop ((r8.nx.sv xs a.toNat s).tmod (IntKind.i64.wrap (k + (1 : Int)))).toNat os))).length) * (8 : Nat) ≤ (140737488355328 : Nat))))) then L f n (mkS (34 : Nat) [((0 : Nat), AVal.ptr (0 : Nat) (0 : Nat) (0 : Nat)), ((1 : Nat), AVal.int IntKind.i64 m), ((5 : Nat), AVal.ro (Cont.ints IntKind.i64 (List.take ((0 : Nat) + (List.take (((r8.nx.sv xs a.toNat s).tmod (IntKind.i64.wrap (k + (1 : Int)))).toNat - (0 : Nat)) (List.take (((r8.nx.sv xs a.toNat s).tmod (IntKind.i64.wrap (k + (1 : Int)))).toNat - (0 : Nat)) (List.drop (0 : Nat) os))).length + (List.take (1 : Nat) (List.drop (0 : Nat) ((List.replicate (1 : Nat) (0 : Int)).set (0 : Nat) k))).length) (List.take ((0 : Nat) + (List.take (((r8.nx.sv xs a.toNat s).tmod (IntKind.i64.wrap (k + (1 : Int)))).toNat - (0 : Nat)) (List.take (((r8.nx.sv xs a.toNat s).tmod (IntKind.i64.wrap (k + (1 : Int)))).toNat - (0 : Nat)) (List.drop (0 : Nat) os))).length) (List.take (0 : Nat) (List.replicate (0 : Nat) (0 : Int)) ++ List.take (((r8.nx.sv xs a.toNat s).tmod (IntKind.i64.wrap (k + (1 : Int)))).toNat - (0 : Nat)) (List.take (((r8.nx.sv xs a.toNat s).tmod (IntKind.i64.wrap (k + (1 : Int)))).toNat - (0 : Nat)) (List.drop (0 : Nat) os))) ++ List.take (1 : Nat) (List.drop (0 : Nat) ((List.replicate (1 : Nat) (0 : Int)).set (0 : Nat) k))) ++ List.take (q - ((r8.nx.sv xs a.toNat s).tmod (IntKind.i64.wrap (k + (1 : Int)))).toNat) (List.take (q - ((r8.nx.sv xs a.toNat s).tmod (IntKind.i64.wrap (k + (1 : Int)))).toNat) (List.drop ((r8.nx.sv xs a.toNat s).tmod (IntKind.i64.wrap (k + (1 : Int)))).toNat os)))) ((0 : Nat) + (List.take (((r8.nx.sv xs a.toNat s).tmod (IntKind.i64.wrap (k + (1 : Int)))).toNat - (0 : Nat)) (List.take (((r8.nx.sv xs a.toNat s).tmod (IntKind.i64.wrap (k + (1 : Int)))).toNat - (0 : Nat)) (List.drop (0 : Nat) os))).length + (List.take (1 : Nat) (List.drop (0 : Nat) ((List.replicate (1 : Nat) (0 : Int)).set (0 : Nat) k))).length + (List.take (q - ((r8.nx.sv xs a.toNat s).tmod (IntKind.i64.wrap (k + (1 : Int)))).toNat) (List.take (q - ((r8.nx.sv xs a.toNat s).tmod (IntKind.i64.wrap (k + (1 : Int)))).toNat) (List.drop ((r8.nx.sv xs a.toNat s).tmod (IntKind.i64.wrap (k + (1 : Int)))).toNat os))).length) (1 : Nat)), ((6 : Nat), AVal.int IntKind.i64 (IntKind.i64.wrap (k + (1 : Int))))] [{ c := BC.cells [AVal.ro (Cont.ints IntKind.u8 xs) xs.length (1 : Nat), AVal.int IntKind.i64 (bif decide (IntKind.i64.wrap (k + (1 : Int)) ≤ (1 : Int)) then a else a + (1 : Int)), AVal.int IntKind.u64 (bif decide (IntKind.i64.wrap (k + (1 : Int)) ≤ (1 : Int)) then s else r8.seed.sv xs a.toNat s)], ver := (0 : Nat) }]) else none else none else none else none else none else none else some (AVal.ro (Cont.ints IntKind.i64 os) q (1 : Nat), [{ c := BC.cells [AVal.ro (Cont.ints IntKind.u8 xs) xs.length (1 : Nat), AVal.int IntKind.i64 a, AVal.int IntKind.u64 s], ver := (0 : Nat) }])) := by kernel_rfl
theorem loop (xs : List Int) (m f : Nat) (hm : m ≤ 8) (hx : xs.length ≤ 2000000) (hb : r8.bytes.sp xs = true) : ∀ (d k n a : Nat) (s : Int) (os : List Int), k + d = m → d < n → os.length = k → a + d ≤ 1000 →
    L f n (mkS 34 [(0, .ptr 0 0 0), (1, .int .i64 ((m : Nat) : Int)), (5, .ro (.ints .i64 os) k 1), (6, .int .i64 ((k : Nat) : Int))] [⟨.cells [.ro (.ints .u8 xs) xs.length 1, .int .i64 ((a : Nat) : Int), .int .u64 s], 0⟩]) = some (.ro (.ints .i64 (wo.od.sv xs d k a s os)) m 1, [⟨.cells [.ro (.ints .u8 xs) xs.length 1, .int .i64 ((wo.oa.sv d k a : Nat) : Int), .int .u64 (wo.ox.sv xs d k a s)], 0⟩]) := by
  intro d
  induction d with
  | zero =>
    intro k n a s os hk hn hl ha
    obtain ⟨n, rfl⟩ : ∃ k, n = k + 1 := ⟨n - 1, by omega⟩
    obtain rfl : k = m := by omega
    rw [round]
    simp only [wo.od.sv, wo.oa.sv, wo.ox.sv]
    simp -implicitDefEqProofs (disch := omega) only [take_one, set_one, decide_eq_true, decide_eq_false, IntWalk.i64_in, beqT, beqF, bneT, bneF, nat_succ, ← Int.natCast_mul, ← Int.natCast_add, Int.toNat_natCast, Int.zero_mul, Int.zero_add, Int.add_zero, Nat.zero_add, Nat.add_zero, Nat.zero_mul, List.length_singleton, List.length_append, List.length_nil, List.length_cons, List.take_length, List.drop_zero, List.replicate_zero, List.take_nil, List.nil_append, Nat.reduceBEq, Nat.reduceMul, Nat.reduceLeDiff, eq_self, and_self, true_and, and_true, decide_true, decide_false, Bool.and_self, Bool.or_self, Bool.and_true, Bool.true_and, Bool.and_false, Bool.false_and, Bool.or_true, Bool.true_or, Bool.or_false, Bool.false_or, Bool.not_true, Bool.not_false, cond_true, cond_false]
  | succ d ih =>
    intro k n a s os hk hn hl ha
    obtain ⟨n, rfl⟩ : ∃ k, n = k + 1 := ⟨n - 1, by omega⟩
    have hka : wo.ka.sv k a ≤ a + 1 := by unfold wo.ka.sv; cases decide (k = 0) <;> simp only [cond_true, cond_false] <;> omega
    have hn1 := r8.nx_ok hb a s
    have t1 := r8.tmod_in (n := (k : Int) + 1) hn1.1 (by omega)
    have hy : ((wo.yo.sv xs k a s : Nat) : Int) = (r8.nx.sv xs a s).tmod ((k : Int) + 1) := by unfold wo.yo.sv; omega
    have hy2 : (r8.nx.sv xs a s).tmod (((k + 1 : Nat) : Nat) : Int) = ((wo.yo.sv xs k a s : Nat) : Int) := by rw [hy]; rfl
    have g := ih (k + 1) n (wo.ka.sv k a) (wo.kx.sv xs k a s) (wo.ins.sv os (wo.yo.sv xs k a s) k) (by omega) (by omega) (by rw [(wo.ins_perm _ _ _).length_eq, List.length_cons, hl]) (by omega)
    obtain ⟨y, hyy⟩ : ∃ y, wo.yo.sv xs k a s = y := ⟨_, rfl⟩
    simp only [wo.od.sv, wo.oa.sv, wo.ox.sv]
    rw [hyy] at hy2 hy g ⊢
    have ly : y ≤ k := by omega
    have lA : (List.take y os).length = y := by rw [List.length_take]; omega
    have tA : List.take y (List.take y os) = List.take y os := by rw [List.take_take, Nat.min_self]
    have tB : List.take (y + 1) (List.take y os ++ [(k : Int)]) = List.take y os ++ [(k : Int)] := List.take_of_length_le (by rw [List.length_append, List.length_singleton]; omega)
    have lC : (List.drop y os).length = k - y := by rw [List.length_drop]; omega
    have tC : List.take (k - y) (List.drop y os) = List.drop y os := List.take_of_length_le (by omega)
    have eC : y + 1 + (k - y) = k + 1 := by omega
    rw [round]
    by_cases h0 : k = 0
    · rw [show wo.ka.sv k a = a from by rw [wo.ka.sv, decide_eq_true h0, cond_true], show wo.kx.sv xs k a s = s from by rw [wo.kx.sv, decide_eq_true h0, cond_true]] at g ⊢
      simp only [wo.ins.sv] at g ⊢
      simp -implicitDefEqProofs (disch := omega) only [hy2, Nat.sub_zero, List.append_assoc, lA, tA, tB, lC, tC, eC, take_one, set_one, decide_eq_true, decide_eq_false, IntWalk.i64_in, beqT, beqF, bneT, bneF, nat_succ, ← Int.natCast_mul, ← Int.natCast_add, Int.toNat_natCast, Int.zero_mul, Int.zero_add, Int.add_zero, Nat.zero_add, Nat.add_zero, Nat.zero_mul, List.length_singleton, List.length_append, List.length_nil, List.length_cons, List.take_length, List.drop_zero, List.replicate_zero, List.take_nil, List.nil_append, Nat.reduceBEq, Nat.reduceMul, Nat.reduceLeDiff, eq_self, and_self, true_and, and_true, decide_true, decide_false, Bool.and_self, Bool.or_self, Bool.and_true, Bool.true_and, Bool.and_false, Bool.false_and, Bool.or_true, Bool.true_or, Bool.or_false, Bool.false_or, Bool.not_true, Bool.not_false, cond_true, cond_false]
      exact g
    · rw [show wo.ka.sv k a = a + 1 from by rw [wo.ka.sv, decide_eq_false h0, cond_false], show wo.kx.sv xs k a s = r8.seed.sv xs a s from by rw [wo.kx.sv, decide_eq_false h0, cond_false]] at g ⊢
      simp only [wo.ins.sv] at g ⊢
      simp -implicitDefEqProofs (disch := omega) only [hy2, Nat.sub_zero, List.append_assoc, lA, tA, tB, lC, tC, eC, take_one, set_one, decide_eq_true, decide_eq_false, IntWalk.i64_in, beqT, beqF, bneT, bneF, nat_succ, ← Int.natCast_mul, ← Int.natCast_add, Int.toNat_natCast, Int.zero_mul, Int.zero_add, Int.add_zero, Nat.zero_add, Nat.add_zero, Nat.zero_mul, List.length_singleton, List.length_append, List.length_nil, List.length_cons, List.take_length, List.drop_zero, List.replicate_zero, List.take_nil, List.nil_append, Nat.reduceBEq, Nat.reduceMul, Nat.reduceLeDiff, eq_self, and_self, true_and, and_true, decide_true, decide_false, Bool.and_self, Bool.or_self, Bool.and_true, Bool.true_and, Bool.and_false, Bool.false_and, Bool.or_true, Bool.true_or, Bool.or_false, Bool.false_or, Bool.not_true, Bool.not_false, cond_true, cond_false]
      exact g
theorem run : ∀ args H v new, R args H = some (true, v, new) → ∃ fuel, runFn Try.prog (orcW [⟨65, bPick.R⟩] []) hd Dr.std (some 0) fuel (bodyOf Try.f93) 34 [4] args H = some (v, new) := by
  intro args H v new h
  unfold R at h
  split at h
  · rename_i m xs l a s
    simp only [Option.some.injEq, Prod.mk.injEq, Bool.and_eq_true, decide_eq_true_eq] at h
    obtain ⟨⟨⟨rfl, h1, h2, h3, h4, h5⟩, hb⟩, rfl, rfl⟩ := h
    obtain ⟨m, rfl⟩ : ∃ q : Nat, m = q := ⟨m.toNat, by omega⟩
    obtain ⟨a, rfl⟩ : ∃ q : Nat, a = q := ⟨a.toNat, by omega⟩
    obtain ⟨F, hF⟩ : ∃ F : Nat, F = 100 := ⟨100, rfl⟩
    refine ⟨F, ?_⟩
    have g := loop xs m F (by omega) h1 hb m 0 F a s [] (by omega) (by omega) rfl (by omega)
    rw [start]
    exact g
  · cases h
theorem ok : EntWOk Try.prog ⟨93, R⟩ :=
  entw_ok mixed (A := (orcW [⟨65, bPick.R⟩] [])) (orcW_ok (by simp only [List.mem_cons, List.not_mem_nil, or_false, forall_eq_or_imp, forall_eq]; exact bPick.ok) (by simp)) Try.func93 (by kernel_rfl) (by kernel_rfl) (n := 34) (ts := [4]) (hd := hd) (dr := Dr.std) (cut := (some 0)) (by kernel_rfl) (by kernel_rfl) (by kernel_rfl) run
end l05DrawOrder

namespace B10Order
def R : List AVal → Option (Bool × AVal × List Blk)
  | [.ro (.ints .u8 xs) m 1, .int .i64 p] => some (decide (m = xs.length ∧ m ≤ 2000000 ∧ 0 ≤ p ∧ p ≤ 8) && r8.bytes.sp xs, .ro (.ints .i64 (wo.od.sv xs p.toNat 0 0 0 [])) p.toNat 1, [])
  | _ => none
theorem go (xs : List Int) (p : Int) :
  runFn Try.prog (orcW [⟨101, l07DrawOrder.R⟩] [⟨63, l00From.R⟩]) hd0 Dr.std (some 0) 0 (bodyOf Try.f41) 11 [4] [.ro (.ints .u8 xs) xs.length 1, .int .i64 p] []
  = (bif true && (true && true || true && (false && true && true)) then bif decide (xs.length = xs.length ∧ xs.length ≤ (2000000 : Nat) ∧ (0 : Int) ≤ (0 : Int) ∧ (0 : Int) ≤ (100 : Int) ∧ (0 : Int) ≤ p ∧ p ≤ (8 : Int)) && r8.bytes.sp xs && (true && (true && true)) then some (AVal.ro (Cont.ints IntKind.i64 (wo.od.sv xs p.toNat (0 : Nat) (0 : Nat) (0 : Int) [])) p.toNat (1 : Nat), []) else none else none) := by kernel_rfl
theorem run : ∀ args v new, R args = some (true, v, new) → ∃ fuel, runFn Try.prog (orcW [⟨101, l07DrawOrder.R⟩] [⟨63, l00From.R⟩]) hd0 Dr.std (some 0) fuel (bodyOf Try.f41) 11 [4] args [] = some (v, new) := by
  intro args v new h
  unfold R at h
  split at h
  · rename_i xs m p
    simp only [Option.some.injEq, Prod.mk.injEq, Bool.and_eq_true, decide_eq_true_eq] at h
    obtain ⟨⟨⟨rfl, h1, h2, h3⟩, hb⟩, rfl, rfl⟩ := h
    refine ⟨0, ?_⟩
    rw [go]
    simp -implicitDefEqProofs (disch := omega) only [hb, take_one, set_one, decide_eq_true, decide_eq_false, IntWalk.i64_in, beqT, beqF, bneT, bneF, nat_succ, ← Int.natCast_mul, ← Int.natCast_add, Int.toNat_natCast, Int.zero_mul, Int.zero_add, Int.add_zero, Nat.zero_add, Nat.add_zero, Nat.zero_mul, List.length_singleton, List.length_append, List.length_nil, List.length_cons, List.take_length, List.drop_zero, List.replicate_zero, List.take_nil, List.nil_append, Nat.reduceBEq, Nat.reduceMul, Nat.reduceLeDiff, eq_self, and_self, true_and, and_true, decide_true, decide_false, Bool.and_self, Bool.or_self, Bool.and_true, Bool.true_and, Bool.and_false, Bool.false_and, Bool.or_true, Bool.true_or, Bool.or_false, Bool.false_or, Bool.not_true, Bool.not_false, cond_true, cond_false]
    try rfl
  · cases h
theorem ok : EntOk Try.prog ⟨41, R⟩ :=
  ent_okA mixed (A := (orcW [⟨101, l07DrawOrder.R⟩] [⟨63, l00From.R⟩])) (orcW_ok (by simp only [List.mem_cons, List.not_mem_nil, or_false, forall_eq_or_imp, forall_eq]; exact l07DrawOrder.ok) (by simp only [List.mem_cons, List.not_mem_nil, or_false, forall_eq_or_imp, forall_eq]; exact l00From.ok)) Try.func41 (by kernel_rfl) (by kernel_rfl) (n := 11) (ts := [4]) (hd := hd0) (dr := Dr.std) (cut := (some 0)) (by kernel_rfl) (by kernel_rfl) (by kernel_rfl) run
end B10Order

namespace b10Ints
def R : List AVal → Option (Bool × AVal × List Blk)
  | [.ro (.ints .i64 xs) m 1, .ro (.ints .i64 ys) k 1] => some (decide (m = xs.length ∧ k = m ∧ m ≤ 100 ∧ xs = ys), .bool true, [])
  | _ => none
def hd : Nat → Head := fun _ => ⟨[0, 1, 4, 12, 13], none⟩
noncomputable def L (f n : Nat) (s : State) := loopAt Try.prog (orc []) hd Dr.std 0 f (bodyOf Try.f44) 0 [true, true, false, true] (retK Try.prog [4] 0 none) n s
theorem start (xs : List Int) (f : Nat) :
  runFn Try.prog (orc []) hd Dr.std none f (bodyOf Try.f44) 26 [4] [.ro (.ints .i64 xs) xs.length 1, .ro (.ints .i64 xs) xs.length 1] []
  = (bif (↑xs.length : Int) != (↑xs.length : Int) then some (AVal.bool false, []) else L f f (mkS (26 : Nat) [((0 : Nat), AVal.ro (Cont.ints IntKind.i64 xs) xs.length (1 : Nat)), ((1 : Nat), AVal.ro (Cont.ints IntKind.i64 xs) xs.length (1 : Nat)), ((4 : Nat), AVal.bool false), ((12 : Nat), AVal.int IntKind.i64 (↑xs.length : Int)), ((13 : Nat), AVal.int IntKind.i64 (0 : Int))] [])) := by kernel_rfl
theorem round (xs : List Int) (l k : Int) (f n : Nat) :
  L f (n + 1) (mkS 26 [(0, .ro (.ints .i64 xs) xs.length 1), (1, .ro (.ints .i64 xs) xs.length 1), (4, .bool false), (12, .int .i64 l), (13, .int .i64 k)] [])
  = (bif decide (k < l) then bif true && (decide ((0 : Int) ≤ k) && decide (k < (↑xs.length : Int))) then bif decide (k.toNat < xs.length) then bif true && (decide ((0 : Int) ≤ k) && decide (k < (↑xs.length : Int))) then bif decide (k.toNat < xs.length) then bif gz xs k.toNat != gz xs k.toNat then some (AVal.bool false, []) else L f n (mkS (26 : Nat) [((0 : Nat), AVal.ro (Cont.ints IntKind.i64 xs) xs.length (1 : Nat)), ((1 : Nat), AVal.ro (Cont.ints IntKind.i64 xs) xs.length (1 : Nat)), ((4 : Nat), AVal.bool false), ((12 : Nat), AVal.int IntKind.i64 l), ((13 : Nat), AVal.int IntKind.i64 (IntKind.i64.wrap (k + (1 : Int))))] []) else none else none else none else none else some (AVal.bool true, [])) := by kernel_rfl
theorem loop (xs : List Int) (f : Nat) (hl : xs.length ≤ 100) : ∀ (d k n : Nat), k + d = xs.length → d < n →
    L f n (mkS 26 [(0, .ro (.ints .i64 xs) xs.length 1), (1, .ro (.ints .i64 xs) xs.length 1), (4, .bool false), (12, .int .i64 ((xs.length : Nat) : Int)), (13, .int .i64 ((k : Nat) : Int))] []) = some (.bool true, []) := by
  intro d
  induction d with
  | zero =>
    intro k n hk hn
    obtain ⟨n, rfl⟩ : ∃ k, n = k + 1 := ⟨n - 1, by omega⟩
    obtain rfl : k = xs.length := by omega
    rw [round]
    simp -implicitDefEqProofs (disch := omega) only [take_one, set_one, decide_eq_true, decide_eq_false, IntWalk.i64_in, beqT, beqF, bneT, bneF, nat_succ, ← Int.natCast_mul, ← Int.natCast_add, Int.toNat_natCast, Int.zero_mul, Int.zero_add, Int.add_zero, Nat.zero_add, Nat.add_zero, Nat.zero_mul, List.length_singleton, List.length_append, List.length_nil, List.length_cons, List.take_length, List.drop_zero, List.replicate_zero, List.take_nil, List.nil_append, Nat.reduceBEq, Nat.reduceMul, Nat.reduceLeDiff, eq_self, and_self, true_and, and_true, decide_true, decide_false, Bool.and_self, Bool.or_self, Bool.and_true, Bool.true_and, Bool.and_false, Bool.false_and, Bool.or_true, Bool.true_or, Bool.or_false, Bool.false_or, Bool.not_true, Bool.not_false, cond_true, cond_false]
  | succ d ih =>
    intro k n hk hn
    obtain ⟨n, rfl⟩ : ∃ k, n = k + 1 := ⟨n - 1, by omega⟩
    have g := ih (k + 1) n (by omega) (by omega)
    rw [round]
    simp -implicitDefEqProofs (disch := omega) only [take_one, set_one, decide_eq_true, decide_eq_false, IntWalk.i64_in, beqT, beqF, bneT, bneF, nat_succ, ← Int.natCast_mul, ← Int.natCast_add, Int.toNat_natCast, Int.zero_mul, Int.zero_add, Int.add_zero, Nat.zero_add, Nat.add_zero, Nat.zero_mul, List.length_singleton, List.length_append, List.length_nil, List.length_cons, List.take_length, List.drop_zero, List.replicate_zero, List.take_nil, List.nil_append, Nat.reduceBEq, Nat.reduceMul, Nat.reduceLeDiff, eq_self, and_self, true_and, and_true, decide_true, decide_false, Bool.and_self, Bool.or_self, Bool.and_true, Bool.true_and, Bool.and_false, Bool.false_and, Bool.or_true, Bool.true_or, Bool.or_false, Bool.false_or, Bool.not_true, Bool.not_false, cond_true, cond_false]
    exact g
theorem run : ∀ args v new, R args = some (true, v, new) → ∃ fuel, runFn Try.prog (orc []) hd Dr.std none fuel (bodyOf Try.f44) 26 [4] args [] = some (v, new) := by
  intro args v new h
  unfold R at h
  split at h
  · rename_i xs m ys k
    simp only [Option.some.injEq, Prod.mk.injEq, Bool.and_eq_true, decide_eq_true_eq] at h
    obtain ⟨⟨rfl, rfl, h1, rfl⟩, rfl, rfl⟩ := h
    obtain ⟨F, hF⟩ : ∃ F : Nat, F = 200 := ⟨200, rfl⟩
    refine ⟨F, ?_⟩
    rw [start]
    simp -implicitDefEqProofs (disch := omega) only [take_one, set_one, decide_eq_true, decide_eq_false, IntWalk.i64_in, beqT, beqF, bneT, bneF, nat_succ, ← Int.natCast_mul, ← Int.natCast_add, Int.toNat_natCast, Int.zero_mul, Int.zero_add, Int.add_zero, Nat.zero_add, Nat.add_zero, Nat.zero_mul, List.length_singleton, List.length_append, List.length_nil, List.length_cons, List.take_length, List.drop_zero, List.replicate_zero, List.take_nil, List.nil_append, Nat.reduceBEq, Nat.reduceMul, Nat.reduceLeDiff, eq_self, and_self, true_and, and_true, decide_true, decide_false, Bool.and_self, Bool.or_self, Bool.and_true, Bool.true_and, Bool.and_false, Bool.false_and, Bool.or_true, Bool.true_or, Bool.or_false, Bool.false_or, Bool.not_true, Bool.not_false, cond_true, cond_false]
    exact loop xs F h1 xs.length 0 F (by omega) (by omega)
  · cases h
theorem ok : EntOk Try.prog ⟨44, R⟩ :=
  ent_okA mixed (A := (orc [])) (orc_ok (by simp)) Try.func44 (by kernel_rfl) (by kernel_rfl) (n := 26) (ts := [4]) (hd := hd) (dr := Dr.std) (cut := none) (by kernel_rfl) (by kernel_rfl) (by kernel_rfl) run
end b10Ints

end Go.Proofs.Ytkoongajnnaeoaa.Ab
