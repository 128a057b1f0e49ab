/-
  Functions: numbers that are drawn from bytes.
-/
import Derived.Test.YtjhofofieiiplaaGreatDoorFnNA
import Derived.Test.YtjhofofieiiplaaGreatDoorFnNa
import Derived.Test.YtjhofofieiiplaaGreatDoorFnBy
namespace Go.Proofs.YtjhofofieiiplaaGreatDoor.Ab
open Go
set_option linter.unusedVariables false
set_option linter.unusedSimpArgs false
set_option maxRecDepth 100000

namespace b10Long
def R : List AVal → Option (Bool × AVal × List Blk)
  | [.ro (.ints .u8 xs) m 1, .ro (.ints .u8 ys) k 1] => some (true, .bool (decide ((1048576 : Int) < (m : Int)) || decide ((1048576 : Int) < (k : Int))), [])
  | _ => none
theorem go (xs ys : List Int) (m k : Nat) :
  runFn Tryz.prog (orc []) hd0 Dr.std none 0 (bodyOf Tryz.f5) 13 [4] [.ro (.ints .u8 xs) m 1, .ro (.ints .u8 ys) k 1] []
  = (bif decide ((1048576 : Int) < (↑m : Int)) then some (AVal.bool true, []) else some (AVal.bool (decide ((1048576 : Int) < (↑k : Int))), [])) := by kernel_rfl
theorem run : ∀ args v new, R args = some (true, v, new) → ∃ fuel, runFn Tryz.prog (orc []) hd0 Dr.std none fuel (bodyOf Tryz.f5) 13 [4] args [] = some (v, new) := by
  intro args v new h
  unfold R at h
  split at h
  · rename_i xs m ys k
    simp only [Option.some.injEq, Prod.mk.injEq, true_and] at h
    obtain ⟨rfl, rfl⟩ := h
    refine ⟨0, ?_⟩
    rw [go]
    cases decide ((1048576 : Int) < (m : Int)) <;> rfl
  · cases h
theorem ok : EntOk Tryz.prog ⟨5, R⟩ :=
  ent_okA mixed (A := (orc [])) (orc_ok (by simp)) Tryz.func5 (by kernel_rfl) (by kernel_rfl) (n := 13) (ts := [4]) (hd := hd0) (dr := Dr.std) (cut := none) (by kernel_rfl) (by kernel_rfl) (by kernel_rfl) run
end b10Long

namespace wo
/-- A number that is chosen by a byte, or by its place. -/
def at.sv (xs : List Int) (i : Nat) (n : Int) : Int := bif decide (i < xs.length) then (gz xs i).tmod n else ((i : Int) * 37 + 11).tmod n
theorem at_in {xs : List Int} (h : r8.bytes.sp xs = true) (i : Nat) {n : Int} (hn : 1 ≤ n) : 0 ≤ at.sv xs i n ∧ at.sv xs i n < n := by
  unfold at.sv
  have hb := r8.byte h i
  cases decide (i < xs.length)
  · exact r8.tmod_in (by omega) (by omega)
  · exact r8.tmod_in hb.1 (by omega)
end wo

namespace b10At
def R : List AVal → Option (Bool × AVal × List Blk)
  | [.ro (.ints .u8 xs) m 1, .int .i64 i, .int .i64 n] => some (decide (m = xs.length ∧ 0 ≤ i ∧ i ≤ 1000 ∧ 2 ≤ n ∧ n ≤ 1000) && r8.bytes.sp xs, .int .i64 (wo.at.sv xs i.toNat n), [])
  | _ => none
theorem go (xs : List Int) (i n : Int) :
  runFn Tryz.prog (orc []) hd0 Dr.std none 0 (bodyOf Tryz.f16) 25 [6] [.ro (.ints .u8 xs) xs.length 1, .int .i64 i, .int .i64 n] []
  = (bif decide (n ≤ (1 : Int)) then some (AVal.int IntKind.i64 (0 : Int), []) else bif decide (i < (↑xs.length : Int)) then bif true && (decide ((0 : Int) ≤ i) && decide (i < (↑xs.length : Int))) then bif decide (i.toNat < xs.length) then bif !n == (0 : Int) then some (AVal.int IntKind.i64 ((IntKind.i64.wrap (gz xs i.toNat)).tmod n), []) else none else none else none else bif !n == (0 : Int) then some (AVal.int IntKind.i64 ((IntKind.i64.wrap (IntKind.i64.wrap (i * (37 : Int)) + (11 : Int))).tmod n), []) else none) := by kernel_rfl
theorem run : ∀ args v new, R args = some (true, v, new) → ∃ fuel, runFn Tryz.prog (orc []) hd0 Dr.std none fuel (bodyOf Tryz.f16) 25 [6] args [] = some (v, new) := by
  intro args v new h
  unfold R at h
  split at h
  · rename_i xs m i n
    simp only [Option.some.injEq, Prod.mk.injEq, Bool.and_eq_true, decide_eq_true_eq] at h
    obtain ⟨⟨⟨rfl, h1, h2, h3, h4⟩, hb⟩, rfl, rfl⟩ := h
    obtain ⟨i, rfl⟩ : ∃ q : Nat, i = q := ⟨i.toNat, by omega⟩
    have c3 : (n == 0) = false := by rw [beq_eq_false_iff_ne]; omega
    have hg := r8.byte hb i
    refine ⟨0, ?_⟩
    rw [go, Int.toNat_natCast]
    unfold wo.at.sv
    by_cases c : i < xs.length
    · simp -implicitDefEqProofs (disch := omega) only [c3, take_one, set_one, decide_eq_true, decide_eq_false, IntWalk.i64_in, beqT, beqF, bneT, bneF, nat_succ, Int.toNat_natCast, Int.zero_mul, Int.zero_add, Int.add_zero, Nat.zero_add, Nat.add_zero, Nat.zero_mul, List.length_singleton, List.length_append, List.length_nil, List.length_cons, List.take_length, List.drop_zero, List.replicate_zero, List.take_nil, List.nil_append, Nat.reduceBEq, Nat.reduceMul, Nat.reduceLeDiff, eq_self, and_self, true_and, and_true, decide_true, decide_false, Bool.and_self, Bool.or_self, Bool.and_true, Bool.true_and, Bool.and_false, Bool.false_and, Bool.or_true, Bool.true_or, Bool.or_false, Bool.false_or, Bool.not_true, Bool.not_false, cond_true, cond_false]
    · simp -implicitDefEqProofs (disch := omega) only [c3, take_one, set_one, decide_eq_true, decide_eq_false, IntWalk.i64_in, beqT, beqF, bneT, bneF, nat_succ, Int.toNat_natCast, Int.zero_mul, Int.zero_add, Int.add_zero, Nat.zero_add, Nat.add_zero, Nat.zero_mul, List.length_singleton, List.length_append, List.length_nil, List.length_cons, List.take_length, List.drop_zero, List.replicate_zero, List.take_nil, List.nil_append, Nat.reduceBEq, Nat.reduceMul, Nat.reduceLeDiff, eq_self, and_self, true_and, and_true, decide_true, decide_false, Bool.and_self, Bool.or_self, Bool.and_true, Bool.true_and, Bool.and_false, Bool.false_and, Bool.or_true, Bool.true_or, Bool.or_false, Bool.false_or, Bool.not_true, Bool.not_false, cond_true, cond_false]
  · cases h
theorem ok : EntOk Tryz.prog ⟨16, R⟩ :=
  ent_okA mixed (A := (orc [])) (orc_ok (by simp)) Tryz.func16 (by kernel_rfl) (by kernel_rfl) (n := 25) (ts := [6]) (hd := hd0) (dr := Dr.std) (cut := none) (by kernel_rfl) (by kernel_rfl) (by kernel_rfl) run
end b10At

namespace bNext
def R : List AVal → Heap → Option (Bool × AVal × Heap)
  | [.ptr 0 0 0], [⟨.cells [.ro (.ints .u8 xs) m 1, .int .i64 a, .int .u64 s], 0⟩] => some (decide (m = xs.length ∧ m ≤ 2000000 ∧ 0 ≤ a ∧ a ≤ 1000000), .int .i64 (r8.nx.sv xs a.toNat s), [⟨.cells [.ro (.ints .u8 xs) m 1, .int .i64 (a + 1), .int .u64 (r8.seed.sv xs a.toNat s)], 0⟩])
  | _, _ => none
theorem go (xs : List Int) (a : Nat) (s : Int) :
  runFn Tryz.prog (orc []) hd0 Dr.std none 0 (bodyOf Tryz.f68) 62 [2] [.ptr 0 0 0] [⟨.cells [.ro (.ints .u8 xs) xs.length 1, .int .i64 a, .int .u64 s], 0⟩]
  = (bif true && true then bif true && true then bif true && true then bif decide ((↑a : Int) < (↑xs.length : Int)) then bif true && true then bif true && true then bif true && (decide ((0 : Int) ≤ (↑a : Int)) && decide ((↑a : Int) < (↑xs.length : Int))) then bif decide ((↑a : Int).toNat < xs.length) then bif true && true then bif true && true then bif true && true then bif true && true then bif decide (IntKind.i64.wrap ((↑a : Int) + (1 : Int)) ≤ (↑xs.length : Int)) then some (AVal.int IntKind.i64 (IntKind.i64.wrap (gz xs (↑a : Int).toNat)), [{ c := BC.cells [AVal.ro (Cont.ints IntKind.u8 xs) xs.length (1 : Nat), AVal.int IntKind.i64 (IntKind.i64.wrap ((↑a : Int) + (1 : Int))), AVal.int IntKind.u64 (IntKind.u64.wrap (IntKind.u64.wrap (IntKind.u64.wrap (s * (6364136223846793005 : Int)) + IntKind.u64.wrap (IntKind.i64.wrap (gz xs (↑a : Int).toNat))) + (1442695040888963407 : Int)))], ver := (0 : Nat) }]) else bif true && true then some (AVal.int IntKind.i64 (IntKind.i64.wrap (iand.sv IntKind.u64 (ishr.sv IntKind.u64 (IntKind.u64.wrap (IntKind.u64.wrap (IntKind.u64.wrap (s * (6364136223846793005 : Int)) + IntKind.u64.wrap (IntKind.i64.wrap (gz xs (↑a : Int).toNat))) + (1442695040888963407 : Int))) (40 : Int)) (255 : Int))), [{ c := BC.cells [AVal.ro (Cont.ints IntKind.u8 xs) xs.length (1 : Nat), AVal.int IntKind.i64 (IntKind.i64.wrap ((↑a : Int) + (1 : Int))), AVal.int IntKind.u64 (IntKind.u64.wrap (IntKind.u64.wrap (IntKind.u64.wrap (s * (6364136223846793005 : Int)) + IntKind.u64.wrap (IntKind.i64.wrap (gz xs (↑a : Int).toNat))) + (1442695040888963407 : Int)))], ver := (0 : Nat) }]) else none else none else none else none else none else none else none else none else none else bif true && true then bif true && true then bif true && true then bif true && true then bif decide (IntKind.i64.wrap ((↑a : Int) + (1 : Int)) ≤ (↑xs.length : Int)) then some (AVal.int IntKind.i64 (0 : Int), [{ c := BC.cells [AVal.ro (Cont.ints IntKind.u8 xs) xs.length (1 : Nat), AVal.int IntKind.i64 (IntKind.i64.wrap ((↑a : Int) + (1 : Int))), AVal.int IntKind.u64 (IntKind.u64.wrap (IntKind.u64.wrap (IntKind.u64.wrap (s * (6364136223846793005 : Int)) + (0 : Int)) + (1442695040888963407 : Int)))], ver := (0 : Nat) }]) else bif true && true then some (AVal.int IntKind.i64 (IntKind.i64.wrap (iand.sv IntKind.u64 (ishr.sv IntKind.u64 (IntKind.u64.wrap (IntKind.u64.wrap (IntKind.u64.wrap (s * (6364136223846793005 : Int)) + (0 : Int)) + (1442695040888963407 : Int))) (40 : Int)) (255 : Int))), [{ c := BC.cells [AVal.ro (Cont.ints IntKind.u8 xs) xs.length (1 : Nat), AVal.int IntKind.i64 (IntKind.i64.wrap ((↑a : Int) + (1 : Int))), AVal.int IntKind.u64 (IntKind.u64.wrap (IntKind.u64.wrap (IntKind.u64.wrap (s * (6364136223846793005 : Int)) + (0 : Int)) + (1442695040888963407 : Int)))], ver := (0 : Nat) }]) else none else none else none else none else none else none else none else none) := by kernel_rfl
theorem run : ∀ args H v new, R args H = some (true, v, new) → ∃ fuel, runFn Tryz.prog (orc []) hd0 Dr.std none fuel (bodyOf Tryz.f68) 62 [2] args H = some (v, new) := by
  intro args H v new h
  unfold R at h
  split at h
  · rename_i xs m a s
    simp only [Option.some.injEq, Prod.mk.injEq, decide_eq_true_eq] at h
    obtain ⟨⟨rfl, h1, h2, h3⟩, rfl, rfl⟩ := h
    obtain ⟨a, rfl⟩ : ∃ q : Nat, a = q := ⟨a.toNat, by omega⟩
    refine ⟨0, ?_⟩
    have wa : IntKind.i64.wrap ((a : Int) + 1) = (a : Int) + 1 := IntWalk.i64_in _ (by omega)
    have g0 : (0 : Int) ≤ (a : Int) := Int.natCast_nonneg _
    rw [go, Int.toNat_natCast]
    unfold r8.nx.sv
    by_cases c : a < xs.length
    · have c2 : (a : Int) < (xs.length : Int) := by omega
      have c3 : (a : Int) + 1 ≤ (xs.length : Int) := by omega
      rw [r8.seed_in c]
      simp -implicitDefEqProofs only [c, c2, c3, wa, g0, Int.toNat_natCast, decide_true, decide_false, Bool.and_self, Bool.or_self, Bool.and_true, Bool.true_and, Bool.and_false, Bool.false_and, Bool.or_true, Bool.true_or, Bool.or_false, Bool.false_or, Bool.not_true, Bool.not_false, cond_true, cond_false]
    · have c2 : ¬ ((a : Int) < (xs.length : Int)) := by omega
      have c3 : ¬ ((a : Int) + 1 ≤ (xs.length : Int)) := by omega
      rw [r8.seed_end c]
      simp -implicitDefEqProofs only [c, c2, c3, wa, g0, Int.toNat_natCast, decide_true, decide_false, Bool.and_self, Bool.or_self, Bool.and_true, Bool.true_and, Bool.and_false, Bool.false_and, Bool.or_true, Bool.true_or, Bool.or_false, Bool.false_or, Bool.not_true, Bool.not_false, cond_true, cond_false]
  · cases h
theorem ok : EntWOk Tryz.prog ⟨68, R⟩ :=
  entw_ok mixed (A := (orc [])) (orc_ok (by simp)) Tryz.func68 (by kernel_rfl) (by kernel_rfl) (n := 62) (ts := [2]) (hd := hd0) (dr := Dr.std) (cut := none) (by kernel_rfl) (by kernel_rfl) (by kernel_rfl) run
end bNext

namespace dw
/-- What is drawn, and where the source stands then: its place, its seed. -/
def nx.sv (xs : List Int) (a s : Int) : Int × Int × Int := (r8.nx.sv xs a.toNat s, a + 1, r8.seed.sv xs a.toNat s)
def two.sv (xs : List Int) (n a s : Int) : Int × Int × Int := (((nx.sv xs a s).1 * 256 + (nx.sv xs (nx.sv xs a s).2.1 (nx.sv xs a s).2.2).1).tmod n, (nx.sv xs (nx.sv xs a s).2.1 (nx.sv xs a s).2.2).2)
def pk.sv (xs : List Int) (n a s : Int) : Int × Int × Int := bif decide (n ≤ 1) then (0, a, s) else bif decide (200 < n) then two.sv xs n a s else ((nx.sv xs a s).1.tmod n, (nx.sv xs a s).2)
theorem nx_in {xs : List Int} (h : r8.bytes.sp xs = true) (a s : Int) : 0 ≤ (nx.sv xs a s).1 ∧ (nx.sv xs a s).1 ≤ 255 ∧ (nx.sv xs a s).2.1 = a + 1 := ⟨(r8.nx_ok h _ _).1, (r8.nx_ok h _ _).2, rfl⟩
theorem pk_in {xs : List Int} (h : r8.bytes.sp xs = true) {n : Int} (hn : 1 ≤ n) (a s : Int) : 0 ≤ (pk.sv xs n a s).1 ∧ (pk.sv xs n a s).1 < n ∧ a ≤ (pk.sv xs n a s).2.1 ∧ (pk.sv xs n a s).2.1 ≤ a + 2 := by
  unfold pk.sv
  by_cases c1 : n ≤ 1
  · rw [decide_eq_true c1]; simp only [cond_true]; omega
  · rw [decide_eq_false c1, cond_false]
    have h1 := nx_in h a s
    have h2 := nx_in h (nx.sv xs a s).2.1 (nx.sv xs a s).2.2
    by_cases c2 : 200 < n
    · rw [decide_eq_true c2, cond_true]
      unfold two.sv
      have := r8.tmod_in (a := (nx.sv xs a s).1 * 256 + (nx.sv xs (nx.sv xs a s).2.1 (nx.sv xs a s).2.2).1) (n := n) (by omega) (by omega)
      refine ⟨this.1, this.2, ?_, ?_⟩
      · show a ≤ (nx.sv xs (nx.sv xs a s).2.1 (nx.sv xs a s).2.2).2.1; omega
      · show (nx.sv xs (nx.sv xs a s).2.1 (nx.sv xs a s).2.2).2.1 ≤ a + 2; omega
    · rw [decide_eq_false c2, cond_false]
      have := r8.tmod_in (a := (nx.sv xs a s).1) (n := n) h1.1 (by omega)
      refine ⟨this.1, this.2, ?_, ?_⟩
      · show a ≤ (nx.sv xs a s).2.1; omega
      · show (nx.sv xs a s).2.1 ≤ a + 2; omega
/-- A plain number. -/
def pl.sv (xs : List Int) (a s : Int) : Nat × Int × Int :=
  (bif (pk.sv xs 4 (pk.sv xs 129 a s).2.1 (pk.sv xs 129 a s).2.2).1 == 0 then fdiv .f32 (FloatKind.f32.nearest ((pk.sv xs 129 a s).1 - 64)) 1088421888 else fdiv .f32 (FloatKind.f32.nearest ((pk.sv xs 129 a s).1 - 64)) 1098907648,
    (pk.sv xs 4 (pk.sv xs 129 a s).2.1 (pk.sv xs 129 a s).2.2).2)
theorem pl_in {xs : List Int} (h : r8.bytes.sp xs = true) (a s : Int) : a ≤ (pl.sv xs a s).2.1 ∧ (pl.sv xs a s).2.1 ≤ a + 4 := by
  have h1 := pk_in h (n := 129) (by decide) a s
  have h2 := pk_in h (n := 4) (by decide) (pk.sv xs 129 a s).2.1 (pk.sv xs 129 a s).2.2
  show a ≤ (pk.sv xs 4 (pk.sv xs 129 a s).2.1 (pk.sv xs 129 a s).2.2).2.1 ∧ (pk.sv xs 4 (pk.sv xs 129 a s).2.1 (pk.sv xs 129 a s).2.2).2.1 ≤ a + 4
  omega
/-- A word in two halves. -/
def wd.sv (xs : List Int) (a s : Int) : Nat × Int × Int :=
  (((pk.sv xs 65536 a s).1 * 65536 + (pk.sv xs 65536 (pk.sv xs 65536 a s).2.1 (pk.sv xs 65536 a s).2.2).1).toNat, (pk.sv xs 65536 (pk.sv xs 65536 a s).2.1 (pk.sv xs 65536 a s).2.2).2)
theorem wd_in {xs : List Int} (h : r8.bytes.sp xs = true) (a s : Int) : (wd.sv xs a s).1 < 4294967296 ∧ a ≤ (wd.sv xs a s).2.1 ∧ (wd.sv xs a s).2.1 ≤ a + 4 := by
  have h1 := pk_in h (n := 65536) (by decide) a s
  have h2 := pk_in h (n := 65536) (by decide) (pk.sv xs 65536 a s).2.1 (pk.sv xs 65536 a s).2.2
  unfold wd.sv
  refine ⟨?_, ?_, ?_⟩
  · show (_ : Int).toNat < _; omega
  · show a ≤ (pk.sv xs 65536 (pk.sv xs 65536 a s).2.1 (pk.sv xs 65536 a s).2.2).2.1; omega
  · show (pk.sv xs 65536 (pk.sv xs 65536 a s).2.1 (pk.sv xs 65536 a s).2.2).2.1 ≤ a + 4; omega
def l10 : List Int := [0, 2147483648, 2139095040, 4286578688, 2143289344, 1, 2139095039, 8388608, 8388607, 2147483649]
def l4 : List Int := [8388608, 2130706432, 1610612736, 536870912]
def dg.sv (xs : List Int) (q : Int × Int × Int) : Nat × Int × Int :=
  bif q.1 == 0 then ((gz l10 (pk.sv xs 10 q.2.1 q.2.2).1.toNat).toNat, (pk.sv xs 10 q.2.1 q.2.2).2)
  else bif q.1 == 1 then wd.sv xs q.2.1 q.2.2
  else bif q.1 == 2 then (((pk.sv xs 65536 q.2.1 q.2.2).1 * 65536).toNat, (pk.sv xs 65536 q.2.1 q.2.2).2)
  else (fmul .f32 (pl.sv xs q.2.1 q.2.2).1 (gz l4 (pk.sv xs 4 (pl.sv xs q.2.1 q.2.2).2.1 (pl.sv xs q.2.1 q.2.2).2.2).1.toNat).toNat, (pk.sv xs 4 (pl.sv xs q.2.1 q.2.2).2.1 (pl.sv xs q.2.1 q.2.2).2.2).2)
def df.sv (xs : List Int) (a s : Int) : Nat × Int × Int :=
  bif (pk.sv xs 12 a s).1 == 0 then dg.sv xs (pk.sv xs 4 (pk.sv xs 12 a s).2.1 (pk.sv xs 12 a s).2.2) else pl.sv xs (pk.sv xs 12 a s).2.1 (pk.sv xs 12 a s).2.2
theorem dg_in {xs : List Int} (h : r8.bytes.sp xs = true) (q : Int × Int × Int) : q.2.1 ≤ (dg.sv xs q).2.1 ∧ (dg.sv xs q).2.1 ≤ q.2.1 + 8 := by
  unfold dg.sv
  have h10 := pk_in h (n := 10) (by decide) q.2.1 q.2.2
  have hw := wd_in h q.2.1 q.2.2
  have h6 := pk_in h (n := 65536) (by decide) q.2.1 q.2.2
  have hp := pl_in h q.2.1 q.2.2
  have h4 := pk_in h (n := 4) (by decide) (pl.sv xs q.2.1 q.2.2).2.1 (pl.sv xs q.2.1 q.2.2).2.2
  cases q.1 == 0
  · cases q.1 == 1
    · cases q.1 == 2
      · show q.2.1 ≤ (pk.sv xs 4 (pl.sv xs q.2.1 q.2.2).2.1 (pl.sv xs q.2.1 q.2.2).2.2).2.1 ∧ (pk.sv xs 4 (pl.sv xs q.2.1 q.2.2).2.1 (pl.sv xs q.2.1 q.2.2).2.2).2.1 ≤ q.2.1 + 8; omega
      · show q.2.1 ≤ (pk.sv xs 65536 q.2.1 q.2.2).2.1 ∧ (pk.sv xs 65536 q.2.1 q.2.2).2.1 ≤ q.2.1 + 8; omega
    · show q.2.1 ≤ (wd.sv xs q.2.1 q.2.2).2.1 ∧ (wd.sv xs q.2.1 q.2.2).2.1 ≤ q.2.1 + 8; omega
  · show q.2.1 ≤ (pk.sv xs 10 q.2.1 q.2.2).2.1 ∧ (pk.sv xs 10 q.2.1 q.2.2).2.1 ≤ q.2.1 + 8; omega
theorem df_in {xs : List Int} (h : r8.bytes.sp xs = true) (a s : Int) : a ≤ (df.sv xs a s).2.1 ∧ (df.sv xs a s).2.1 ≤ a + 12 := by
  unfold df.sv
  have h12 := pk_in h (n := 12) (by decide) a s
  have h4 := pk_in h (n := 4) (by decide) (pk.sv xs 12 a s).2.1 (pk.sv xs 12 a s).2.2
  have hg := dg_in h (pk.sv xs 4 (pk.sv xs 12 a s).2.1 (pk.sv xs 12 a s).2.2)
  have hp := pl_in h (pk.sv xs 12 a s).2.1 (pk.sv xs 12 a s).2.2
  cases (pk.sv xs 12 a s).1 == 0
  · rw [cond_false]; omega
  · rw [cond_true]; omega
theorem l10_in : ∀ k : Nat, k < 10 → 0 ≤ gz l10 k ∧ gz l10 k ≤ 4294967295 := by decide
theorem l4_in : ∀ k : Nat, k < 4 → 0 ≤ gz l4 k ∧ gz l4 k ≤ 4294967295 := by decide
end dw

namespace bNx
def R : List AVal → Heap → Option (Bool × AVal × Heap)
  | [.ptr 0 0 0], [⟨.cells [.ro (.ints .u8 xs) m 1, .int .i64 a, .int .u64 s], 0⟩] => some (decide (m = xs.length ∧ m ≤ 2000000 ∧ 0 ≤ a ∧ a ≤ 1000000) && r8.bytes.sp xs, .int .i64 (dw.nx.sv xs a s).1, [⟨.cells [.ro (.ints .u8 xs) m 1, .int .i64 (dw.nx.sv xs a s).2.1, .int .u64 (dw.nx.sv xs a s).2.2], 0⟩])
  | _, _ => none
theorem ok : EntWOk Tryz.prog ⟨68, R⟩ := by
  refine ⟨bNext.ok.1, fun args H v new h0 => bNext.ok.2 args H v new ?_⟩
  have h : R args H = some (true, v, new) := h0
  clear h0
  unfold R at h
  split at h
  · rename_i xs m a s
    simp only [Option.some.injEq, Prod.mk.injEq, Bool.and_eq_true, decide_eq_true_eq] at h
    obtain ⟨⟨h1, hb⟩, rfl, rfl⟩ := h

    simp only [bNext.R, decide_eq_true h1]
    rfl
  · cases h
end bNx

namespace bPk
def R : List AVal → Heap → Option (Bool × AVal × Heap)
  | [.ptr 0 0 0, .int .i64 k], [⟨.cells [.ro (.ints .u8 xs) m 1, .int .i64 a, .int .u64 s], 0⟩] => some (decide (m = xs.length ∧ m ≤ 2000000 ∧ 0 ≤ a ∧ a ≤ 999990 ∧ 1 ≤ k ∧ k ≤ 65536) && r8.bytes.sp xs, .int .i64 (dw.pk.sv xs k a s).1, [⟨.cells [.ro (.ints .u8 xs) m 1, .int .i64 (dw.pk.sv xs k a s).2.1, .int .u64 (dw.pk.sv xs k a s).2.2], 0⟩])
  | _, _ => none
theorem go (xs : List Int) (a s k : Int) :
  runFn Tryz.prog (orcW [⟨68, bNx.R⟩] []) hd0 Dr.std none 0 (bodyOf Tryz.f39) 20 [4] [.ptr 0 0 0, .int .i64 k] [⟨.cells [.ro (.ints .u8 xs) xs.length 1, .int .i64 a, .int .u64 s], 0⟩]
  = (bif true && true then bif decide (k ≤ (1 : Int)) then some (AVal.int IntKind.i64 (0 : Int), [{ c := BC.cells [AVal.ro (Cont.ints IntKind.u8 xs) xs.length (1 : Nat), AVal.int IntKind.i64 a, AVal.int IntKind.u64 s], ver := (0 : Nat) }]) else bif decide (xs.length = xs.length ∧ xs.length ≤ (2000000 : Nat) ∧ (0 : Int) ≤ a ∧ a ≤ (1000000 : Int)) && r8.bytes.sp xs && (true && (true && true)) then bif decide ((200 : Int) < k) then bif decide (xs.length = xs.length ∧ xs.length ≤ (2000000 : Nat) ∧ (0 : Int) ≤ (dw.nx.sv xs a s).2.1 ∧ (dw.nx.sv xs a s).2.1 ≤ (1000000 : Int)) && r8.bytes.sp xs && (true && (true && true)) then bif !k == (0 : Int) then some (AVal.int IntKind.i64 ((IntKind.i64.wrap (IntKind.i64.wrap ((dw.nx.sv xs a s).1 * (256 : Int)) + (dw.nx.sv xs (dw.nx.sv xs a s).2.1 (dw.nx.sv xs a s).2.2).1)).tmod k), [{ c := BC.cells [AVal.ro (Cont.ints IntKind.u8 xs) xs.length (1 : Nat), AVal.int IntKind.i64 (dw.nx.sv xs (dw.nx.sv xs a s).2.1 (dw.nx.sv xs a s).2.2).2.1, AVal.int IntKind.u64 (dw.nx.sv xs (dw.nx.sv xs a s).2.1 (dw.nx.sv xs a s).2.2).2.2], ver := (0 : Nat) }]) else none else none else bif !k == (0 : Int) then some (AVal.int IntKind.i64 ((dw.nx.sv xs a s).1.tmod k), [{ c := BC.cells [AVal.ro (Cont.ints IntKind.u8 xs) xs.length (1 : Nat), AVal.int IntKind.i64 (dw.nx.sv xs a s).2.1, AVal.int IntKind.u64 (dw.nx.sv xs a s).2.2], ver := (0 : Nat) }]) else none else none else none) := by kernel_rfl
theorem run : ∀ args H v new, R args H = some (true, v, new) → ∃ fuel, runFn Tryz.prog (orcW [⟨68, bNx.R⟩] []) hd0 Dr.std none fuel (bodyOf Tryz.f39) 20 [4] args H = some (v, new) := by
  intro args H v new h
  unfold R at h
  split at h
  · rename_i k xs m a s
    simp only [Option.some.injEq, Prod.mk.injEq, Bool.and_eq_true, decide_eq_true_eq] at h
    obtain ⟨⟨⟨rfl, h1, h2, h3, h4, h5⟩, hb⟩, rfl, rfl⟩ := h
    refine ⟨0, ?_⟩
    have c3 : (k == 0) = false := by rw [beq_eq_false_iff_ne]; omega
    have n1 := dw.nx_in hb a s
    have n2 := dw.nx_in hb (dw.nx.sv xs a s).2.1 (dw.nx.sv xs a s).2.2
    rw [go]
    unfold dw.pk.sv
    by_cases c : k ≤ 1
    · simp -implicitDefEqProofs (disch := omega) only [c3, hb, take_one, set_one, decide_eq_true, decide_eq_false, IntWalk.i64_in, beqT, beqF, bneT, bneF, nat_succ, ← Int.natCast_mul, ← Int.natCast_add, Int.toNat_natCast, Int.zero_mul, Int.zero_add, Int.add_zero, Nat.zero_add, Nat.add_zero, Nat.zero_mul, List.length_singleton, List.length_append, List.length_nil, List.length_cons, List.take_length, List.drop_zero, List.replicate_zero, List.take_nil, List.nil_append, Nat.reduceBEq, Nat.reduceMul, Nat.reduceLeDiff, eq_self, and_self, true_and, and_true, decide_true, decide_false, Bool.and_self, Bool.or_self, Bool.and_true, Bool.true_and, Bool.and_false, Bool.false_and, Bool.or_true, Bool.true_or, Bool.or_false, Bool.false_or, Bool.not_true, Bool.not_false, cond_true, cond_false]
    · by_cases c2 : 200 < k
      · unfold dw.two.sv
        simp -implicitDefEqProofs (disch := omega) only [c3, hb, take_one, set_one, decide_eq_true, decide_eq_false, IntWalk.i64_in, beqT, beqF, bneT, bneF, nat_succ, ← Int.natCast_mul, ← Int.natCast_add, Int.toNat_natCast, Int.zero_mul, Int.zero_add, Int.add_zero, Nat.zero_add, Nat.add_zero, Nat.zero_mul, List.length_singleton, List.length_append, List.length_nil, List.length_cons, List.take_length, List.drop_zero, List.replicate_zero, List.take_nil, List.nil_append, Nat.reduceBEq, Nat.reduceMul, Nat.reduceLeDiff, eq_self, and_self, true_and, and_true, decide_true, decide_false, Bool.and_self, Bool.or_self, Bool.and_true, Bool.true_and, Bool.and_false, Bool.false_and, Bool.or_true, Bool.true_or, Bool.or_false, Bool.false_or, Bool.not_true, Bool.not_false, cond_true, cond_false]
      · simp -implicitDefEqProofs (disch := omega) only [c3, hb, take_one, set_one, decide_eq_true, decide_eq_false, IntWalk.i64_in, beqT, beqF, bneT, bneF, nat_succ, ← Int.natCast_mul, ← Int.natCast_add, Int.toNat_natCast, Int.zero_mul, Int.zero_add, Int.add_zero, Nat.zero_add, Nat.add_zero, Nat.zero_mul, List.length_singleton, List.length_append, List.length_nil, List.length_cons, List.take_length, List.drop_zero, List.replicate_zero, List.take_nil, List.nil_append, Nat.reduceBEq, Nat.reduceMul, Nat.reduceLeDiff, eq_self, and_self, true_and, and_true, decide_true, decide_false, Bool.and_self, Bool.or_self, Bool.and_true, Bool.true_and, Bool.and_false, Bool.false_and, Bool.or_true, Bool.true_or, Bool.or_false, Bool.false_or, Bool.not_true, Bool.not_false, cond_true, cond_false]
  · cases h
theorem ok : EntWOk Tryz.prog ⟨39, R⟩ :=
  entw_ok mixed (A := (orcW [⟨68, bNx.R⟩] [])) (orcW_ok (by simp only [List.mem_cons, List.not_mem_nil, or_false, forall_eq_or_imp, forall_eq]; exact bNx.ok) (by simp)) Tryz.func39 (by kernel_rfl) (by kernel_rfl) (n := 20) (ts := [4]) (hd := hd0) (dr := Dr.std) (cut := none) (by kernel_rfl) (by kernel_rfl) (by kernel_rfl) run
end bPk

namespace bOn
def R : List AVal → Heap → Option (Bool × AVal × Heap)
  | [.ptr 0 0 0, .int .i64 k], [⟨.cells [.ro (.ints .u8 xs) m 1, .int .i64 a, .int .u64 s], 0⟩] => some (decide (m = xs.length ∧ m ≤ 2000000 ∧ 0 ≤ a ∧ a ≤ 999990 ∧ 1 ≤ k ∧ k ≤ 65536) && r8.bytes.sp xs, .bool ((dw.pk.sv xs k a s).1 == 0), [⟨.cells [.ro (.ints .u8 xs) m 1, .int .i64 (dw.pk.sv xs k a s).2.1, .int .u64 (dw.pk.sv xs k a s).2.2], 0⟩])
  | _, _ => none
theorem go (xs : List Int) (a s k : Int) :
  runFn Tryz.prog (orcW [⟨39, bPk.R⟩] []) hd0 Dr.std none 0 (bodyOf Tryz.f51) 9 [4] [.ptr 0 0 0, .int .i64 k] [⟨.cells [.ro (.ints .u8 xs) xs.length 1, .int .i64 a, .int .u64 s], 0⟩]
  = (bif true && true then bif decide (xs.length = xs.length ∧ xs.length ≤ (2000000 : Nat) ∧ (0 : Int) ≤ a ∧ a ≤ (999990 : Int) ∧ (1 : Int) ≤ k ∧ k ≤ (65536 : Int)) && r8.bytes.sp xs && (true && (true && true)) then some (AVal.bool ((dw.pk.sv xs k a s).1 == (0 : Int)), [{ c := BC.cells [AVal.ro (Cont.ints IntKind.u8 xs) xs.length (1 : Nat), AVal.int IntKind.i64 (dw.pk.sv xs k a s).2.1, AVal.int IntKind.u64 (dw.pk.sv xs k a s).2.2], ver := (0 : Nat) }]) else none else none) := by kernel_rfl
theorem run : ∀ args H v new, R args H = some (true, v, new) → ∃ fuel, runFn Tryz.prog (orcW [⟨39, bPk.R⟩] []) hd0 Dr.std none fuel (bodyOf Tryz.f51) 9 [4] args H = some (v, new) := by
  intro args H v new h
  unfold R at h
  split at h
  · rename_i k xs m a s
    simp only [Option.some.injEq, Prod.mk.injEq, Bool.and_eq_true, decide_eq_true_eq] at h
    obtain ⟨⟨⟨rfl, h1, h2, h3, h4, h5⟩, hb⟩, rfl, rfl⟩ := h
    refine ⟨0, ?_⟩
    rw [go]
    simp -implicitDefEqProofs (disch := omega) only [hb, take_one, set_one, decide_eq_true, decide_eq_false, IntWalk.i64_in, beqT, beqF, bneT, bneF, nat_succ, ← Int.natCast_mul, ← Int.natCast_add, Int.toNat_natCast, Int.zero_mul, Int.zero_add, Int.add_zero, Nat.zero_add, Nat.add_zero, Nat.zero_mul, List.length_singleton, List.length_append, List.length_nil, List.length_cons, List.take_length, List.drop_zero, List.replicate_zero, List.take_nil, List.nil_append, Nat.reduceBEq, Nat.reduceMul, Nat.reduceLeDiff, eq_self, and_self, true_and, and_true, decide_true, decide_false, Bool.and_self, Bool.or_self, Bool.and_true, Bool.true_and, Bool.and_false, Bool.false_and, Bool.or_true, Bool.true_or, Bool.or_false, Bool.false_or, Bool.not_true, Bool.not_false, cond_true, cond_false]
  · cases h
theorem ok : EntWOk Tryz.prog ⟨51, R⟩ :=
  entw_ok mixed (A := (orcW [⟨39, bPk.R⟩] [])) (orcW_ok (by simp only [List.mem_cons, List.not_mem_nil, or_false, forall_eq_or_imp, forall_eq]; exact bPk.ok) (by simp)) Tryz.func51 (by kernel_rfl) (by kernel_rfl) (n := 9) (ts := [4]) (hd := hd0) (dr := Dr.std) (cut := none) (by kernel_rfl) (by kernel_rfl) (by kernel_rfl) run
end bOn

namespace bAm
def R : List AVal → Heap → Option (Bool × AVal × Heap)
  | [.ptr 0 0 0, .own 1 0 q 0 1], [⟨.cells [.ro (.ints .u8 xs) m 1, .int .i64 a, .int .u64 s], 0⟩, ⟨.typ (.ints .i64 l), 0⟩] => some (decide (m = xs.length ∧ m ≤ 2000000 ∧ 0 ≤ a ∧ a ≤ 999990 ∧ q = l.length ∧ 1 ≤ q ∧ q ≤ 1000) && r8.bytes.sp xs, .int .i64 (gz l (dw.pk.sv xs (q : Int) a s).1.toNat), [⟨.cells [.ro (.ints .u8 xs) m 1, .int .i64 (dw.pk.sv xs (q : Int) a s).2.1, .int .u64 (dw.pk.sv xs (q : Int) a s).2.2], 0⟩, ⟨.typ (.ints .i64 l), 0⟩])
  | _, _ => none
theorem go (xs l : List Int) (a s : Int) :
  runFn Tryz.prog (orcW [⟨39, bPk.R⟩] []) hd0 Dr.std none 0 (bodyOf Tryz.f78) 12 [4] [.ptr 0 0 0, .own 1 0 l.length 0 1] [⟨.cells [.ro (.ints .u8 xs) xs.length 1, .int .i64 a, .int .u64 s], 0⟩, ⟨.typ (.ints .i64 l), 0⟩]
  = (bif true && (true && true) then bif decide (xs.length = xs.length ∧ xs.length ≤ (2000000 : Nat) ∧ (0 : Int) ≤ a ∧ a ≤ (999990 : Int) ∧ (1 : Int) ≤ (↑l.length : Int) ∧ (↑l.length : Int) ≤ (65536 : Int)) && r8.bytes.sp xs && (true && (true && true)) then bif true && (decide ((0 : Int) ≤ (dw.pk.sv xs (↑l.length : Int) a s).1) && decide ((dw.pk.sv xs (↑l.length : Int) a s).1 < (↑l.length : Int))) then bif true && decide ((dw.pk.sv xs (↑l.length : Int) a s).1.toNat < l.length) then some (AVal.int IntKind.i64 (gz l (dw.pk.sv xs (↑l.length : Int) a s).1.toNat), [{ c := BC.cells [AVal.ro (Cont.ints IntKind.u8 xs) xs.length (1 : Nat), AVal.int IntKind.i64 (dw.pk.sv xs (↑l.length : Int) a s).2.1, AVal.int IntKind.u64 (dw.pk.sv xs (↑l.length : Int) a s).2.2], ver := (0 : Nat) }, { c := BC.typ (Cont.ints IntKind.i64 l), ver := (0 : Nat) }]) else none else none else none else none) := by kernel_rfl
theorem run : ∀ args H v new, R args H = some (true, v, new) → ∃ fuel, runFn Tryz.prog (orcW [⟨39, bPk.R⟩] []) hd0 Dr.std none fuel (bodyOf Tryz.f78) 12 [4] args H = some (v, new) := by
  intro args H v new h
  unfold R at h
  split at h
  · rename_i q xs m a s l
    simp only [Option.some.injEq, Prod.mk.injEq, Bool.and_eq_true, decide_eq_true_eq] at h
    obtain ⟨⟨⟨rfl, h1, h2, h3, rfl, h4, h5⟩, hb⟩, rfl, rfl⟩ := h
    refine ⟨0, ?_⟩
    have p := dw.pk_in hb (n := (l.length : Int)) (by omega) a s
    rw [go]
    simp -implicitDefEqProofs (disch := omega) only [hb, take_one, set_one, decide_eq_true, decide_eq_false, IntWalk.i64_in, beqT, beqF, bneT, bneF, nat_succ, ← Int.natCast_mul, ← Int.natCast_add, Int.toNat_natCast, Int.zero_mul, Int.zero_add, Int.add_zero, Nat.zero_add, Nat.add_zero, Nat.zero_mul, List.length_singleton, List.length_append, List.length_nil, List.length_cons, List.take_length, List.drop_zero, List.replicate_zero, List.take_nil, List.nil_append, Nat.reduceBEq, Nat.reduceMul, Nat.reduceLeDiff, eq_self, and_self, true_and, and_true, decide_true, decide_false, Bool.and_self, Bool.or_self, Bool.and_true, Bool.true_and, Bool.and_false, Bool.false_and, Bool.or_true, Bool.true_or, Bool.or_false, Bool.false_or, Bool.not_true, Bool.not_false, cond_true, cond_false]
  · cases h
theorem ok : EntWOk Tryz.prog ⟨78, R⟩ :=
  entw_ok mixed (A := (orcW [⟨39, bPk.R⟩] [])) (orcW_ok (by simp only [List.mem_cons, List.not_mem_nil, or_false, forall_eq_or_imp, forall_eq]; exact bPk.ok) (by simp)) Tryz.func78 (by kernel_rfl) (by kernel_rfl) (n := 12) (ts := [4]) (hd := hd0) (dr := Dr.std) (cut := none) (by kernel_rfl) (by kernel_rfl) (by kernel_rfl) run
end bAm

namespace l01DrawPlain
def R : List AVal → Heap → Option (Bool × AVal × Heap)
  | [.ptr 0 0 0], [⟨.cells [.ro (.ints .u8 xs) m 1, .int .i64 a, .int .u64 s], 0⟩] => some (decide (m = xs.length ∧ m ≤ 2000000 ∧ 0 ≤ a ∧ a ≤ 999980) && r8.bytes.sp xs, .flt .f32 (dw.pl.sv xs a s).1, [⟨.cells [.ro (.ints .u8 xs) m 1, .int .i64 (dw.pl.sv xs a s).2.1, .int .u64 (dw.pl.sv xs a s).2.2], 0⟩])
  | _, _ => none
theorem go (xs : List Int) (a s : Int) :
  runFn Tryz.prog (orcW [⟨39, bPk.R⟩, ⟨51, bOn.R⟩] []) hd0 Dr.std none 0 (bodyOf Tryz.f77) 15 [2] [.ptr 0 0 0] [⟨.cells [.ro (.ints .u8 xs) xs.length 1, .int .i64 a, .int .u64 s], 0⟩]
  = (bif true && true then bif decide (xs.length = xs.length ∧ xs.length ≤ (2000000 : Nat) ∧ (0 : Int) ≤ a ∧ a ≤ (999990 : Int) ∧ (1 : Int) ≤ (129 : Int) ∧ (129 : Int) ≤ (65536 : Int)) && r8.bytes.sp xs && (true && (true && true)) then bif decide (xs.length = xs.length ∧ xs.length ≤ (2000000 : Nat) ∧ (0 : Int) ≤ (dw.pk.sv xs (129 : Int) a s).2.1 ∧ (dw.pk.sv xs (129 : Int) a s).2.1 ≤ (999990 : Int) ∧ (1 : Int) ≤ (4 : Int) ∧ (4 : Int) ≤ (65536 : Int)) && r8.bytes.sp xs && (true && (true && true)) then bif (dw.pk.sv xs (4 : Int) (dw.pk.sv xs (129 : Int) a s).2.1 (dw.pk.sv xs (129 : Int) a s).2.2).1 == (0 : Int) then some (AVal.flt FloatKind.f32 (fdiv FloatKind.f32 (FloatKind.f32.nearest (IntKind.i64.wrap ((dw.pk.sv xs (129 : Int) a s).1 - (64 : Int)))) (1088421888 : Nat)), [{ c := BC.cells [AVal.ro (Cont.ints IntKind.u8 xs) xs.length (1 : Nat), AVal.int IntKind.i64 (dw.pk.sv xs (4 : Int) (dw.pk.sv xs (129 : Int) a s).2.1 (dw.pk.sv xs (129 : Int) a s).2.2).2.1, AVal.int IntKind.u64 (dw.pk.sv xs (4 : Int) (dw.pk.sv xs (129 : Int) a s).2.1 (dw.pk.sv xs (129 : Int) a s).2.2).2.2], ver := (0 : Nat) }]) else some (AVal.flt FloatKind.f32 (fdiv FloatKind.f32 (FloatKind.f32.nearest (IntKind.i64.wrap ((dw.pk.sv xs (129 : Int) a s).1 - (64 : Int)))) (1098907648 : Nat)), [{ c := BC.cells [AVal.ro (Cont.ints IntKind.u8 xs) xs.length (1 : Nat), AVal.int IntKind.i64 (dw.pk.sv xs (4 : Int) (dw.pk.sv xs (129 : Int) a s).2.1 (dw.pk.sv xs (129 : Int) a s).2.2).2.1, AVal.int IntKind.u64 (dw.pk.sv xs (4 : Int) (dw.pk.sv xs (129 : Int) a s).2.1 (dw.pk.sv xs (129 : Int) a s).2.2).2.2], ver := (0 : Nat) }]) else none else none else none) := by kernel_rfl
theorem run : ∀ args H v new, R args H = some (true, v, new) → ∃ fuel, runFn Tryz.prog (orcW [⟨39, bPk.R⟩, ⟨51, bOn.R⟩] []) hd0 Dr.std none fuel (bodyOf Tryz.f77) 15 [2] args H = some (v, new) := by
  intro args H v new h
  unfold R at h
  split at h
  · rename_i xs m a s
    simp only [Option.some.injEq, Prod.mk.injEq, Bool.and_eq_true, decide_eq_true_eq] at h
    obtain ⟨⟨⟨rfl, h1, h2, h3⟩, hb⟩, rfl, rfl⟩ := h
    refine ⟨0, ?_⟩
    have p := dw.pk_in hb (n := 129) (by decide) a s
    have p2 := dw.pk_in hb (n := 4) (by decide) (dw.pk.sv xs 129 a s).2.1 (dw.pk.sv xs 129 a s).2.2
    rw [go]
    unfold dw.pl.sv
    simp -implicitDefEqProofs (disch := omega) only [hb, take_one, set_one, decide_eq_true, decide_eq_false, IntWalk.i64_in, beqT, beqF, bneT, bneF, nat_succ, ← Int.natCast_mul, ← Int.natCast_add, Int.toNat_natCast, Int.zero_mul, Int.zero_add, Int.add_zero, Nat.zero_add, Nat.add_zero, Nat.zero_mul, List.length_singleton, List.length_append, List.length_nil, List.length_cons, List.take_length, List.drop_zero, List.replicate_zero, List.take_nil, List.nil_append, Nat.reduceBEq, Nat.reduceMul, Nat.reduceLeDiff, eq_self, and_self, true_and, and_true, decide_true, decide_false, Bool.and_self, Bool.or_self, Bool.and_true, Bool.true_and, Bool.and_false, Bool.false_and, Bool.or_true, Bool.true_or, Bool.or_false, Bool.false_or, Bool.not_true, Bool.not_false, cond_true, cond_false]
    cases ((dw.pk.sv xs 4 (dw.pk.sv xs 129 a s).2.1 (dw.pk.sv xs 129 a s).2.2).1 == 0) <;> rfl
  · cases h
theorem ok : EntWOk Tryz.prog ⟨77, R⟩ :=
  entw_ok mixed (A := (orcW [⟨39, bPk.R⟩, ⟨51, bOn.R⟩] [])) (orcW_ok (by simp only [List.mem_cons, List.not_mem_nil, or_false, forall_eq_or_imp, forall_eq]; exact ⟨bPk.ok, bOn.ok⟩) (by simp)) Tryz.func77 (by kernel_rfl) (by kernel_rfl) (n := 15) (ts := [2]) (hd := hd0) (dr := Dr.std) (cut := none) (by kernel_rfl) (by kernel_rfl) (by kernel_rfl) run
end l01DrawPlain

namespace l01DrawFloat
def R : List AVal → Heap → Option (Bool × AVal × Heap)
  | [.ptr 0 0 0], [⟨.cells [.ro (.ints .u8 xs) m 1, .int .i64 a, .int .u64 s], 0⟩] => some (decide (m = xs.length ∧ m ≤ 2000000 ∧ 0 ≤ a ∧ a ≤ 999960) && r8.bytes.sp xs, .flt .f32 (dw.df.sv xs a s).1, [⟨.cells [.ro (.ints .u8 xs) m 1, .int .i64 (dw.df.sv xs a s).2.1, .int .u64 (dw.df.sv xs a s).2.2], 0⟩])
  | _, _ => none
theorem go (xs : List Int) (a s : Int) :
  runFn Tryz.prog (orcW [⟨39, bPk.R⟩, ⟨51, bOn.R⟩, ⟨78, bAm.R⟩, ⟨77, l01DrawPlain.R⟩] [⟨52, l01From.R⟩]) hd0 Dr.std (some 0) 0 (bodyOf Tryz.f53) 40 [2] [.ptr 0 0 0] [⟨.cells [.ro (.ints .u8 xs) xs.length 1, .int .i64 a, .int .u64 s], 0⟩]
  = (bif true && true then bif decide (xs.length = xs.length ∧ xs.length ≤ (2000000 : Nat) ∧ (0 : Int) ≤ a ∧ a ≤ (999990 : Int) ∧ (1 : Int) ≤ (12 : Int) ∧ (12 : Int) ≤ (65536 : Int)) && r8.bytes.sp xs && (true && (true && true)) then bif !(dw.pk.sv xs (12 : Int) a s).1 == (0 : Int) then bif decide (xs.length = xs.length ∧ xs.length ≤ (2000000 : Nat) ∧ (0 : Int) ≤ (dw.pk.sv xs (12 : Int) a s).2.1 ∧ (dw.pk.sv xs (12 : Int) a s).2.1 ≤ (999980 : Int)) && r8.bytes.sp xs && (true && (true && true)) then some (AVal.flt FloatKind.f32 (dw.pl.sv xs (dw.pk.sv xs (12 : Int) a s).2.1 (dw.pk.sv xs (12 : Int) a s).2.2).1, [{ c := BC.cells [AVal.ro (Cont.ints IntKind.u8 xs) xs.length (1 : Nat), AVal.int IntKind.i64 (dw.pl.sv xs (dw.pk.sv xs (12 : Int) a s).2.1 (dw.pk.sv xs (12 : Int) a s).2.2).2.1, AVal.int IntKind.u64 (dw.pl.sv xs (dw.pk.sv xs (12 : Int) a s).2.1 (dw.pk.sv xs (12 : Int) a s).2.2).2.2], ver := (0 : Nat) }]) else none else bif decide (xs.length = xs.length ∧ xs.length ≤ (2000000 : Nat) ∧ (0 : Int) ≤ (dw.pk.sv xs (12 : Int) a s).2.1 ∧ (dw.pk.sv xs (12 : Int) a s).2.1 ≤ (999990 : Int) ∧ (1 : Int) ≤ (4 : Int) ∧ (4 : Int) ≤ (65536 : Int)) && r8.bytes.sp xs && (true && (true && true)) then bif (dw.pk.sv xs (4 : Int) (dw.pk.sv xs (12 : Int) a s).2.1 (dw.pk.sv xs (12 : Int) a s).2.2).1 == (0 : Int) then bif decide (xs.length = xs.length ∧ xs.length ≤ (2000000 : Nat) ∧ (0 : Int) ≤ (dw.pk.sv xs (4 : Int) (dw.pk.sv xs (12 : Int) a s).2.1 (dw.pk.sv xs (12 : Int) a s).2.2).2.1 ∧ (dw.pk.sv xs (4 : Int) (dw.pk.sv xs (12 : Int) a s).2.1 (dw.pk.sv xs (12 : Int) a s).2.2).2.1 ≤ (999990 : Int) ∧ (10 : Nat) = (((((((((((List.replicate (10 : Nat) (0 : Int)).set (0 : Nat) (0 : Int)).set (1 : Nat) (2147483648 : Int)).set (2 : Nat) (2139095040 : Int)).set (3 : Nat) (4286578688 : Int)).set (4 : Nat) (2143289344 : Int)).set (5 : Nat) (1 : Int)).set (6 : Nat) (2139095039 : Int)).set (7 : Nat) (8388608 : Int)).set (8 : Nat) (8388607 : Int)).set (9 : Nat) (2147483649 : Int)).length ∧ (1 : Nat) ≤ (10 : Nat) ∧ (10 : Nat) ≤ (1000 : Nat)) && r8.bytes.sp xs && (true && (true && true)) then bif decide ((0 : Int) ≤ gz (((((((((((List.replicate (10 : Nat) (0 : Int)).set (0 : Nat) (0 : Int)).set (1 : Nat) (2147483648 : Int)).set (2 : Nat) (2139095040 : Int)).set (3 : Nat) (4286578688 : Int)).set (4 : Nat) (2143289344 : Int)).set (5 : Nat) (1 : Int)).set (6 : Nat) (2139095039 : Int)).set (7 : Nat) (8388608 : Int)).set (8 : Nat) (8388607 : Int)).set (9 : Nat) (2147483649 : Int)) (dw.pk.sv xs (↑(10 : Nat) : Int) (dw.pk.sv xs (4 : Int) (dw.pk.sv xs (12 : Int) a s).2.1 (dw.pk.sv xs (12 : Int) a s).2.2).2.1 (dw.pk.sv xs (4 : Int) (dw.pk.sv xs (12 : Int) a s).2.1 (dw.pk.sv xs (12 : Int) a s).2.2).2.2).fst.toNat ∧ gz (((((((((((List.replicate (10 : Nat) (0 : Int)).set (0 : Nat) (0 : Int)).set (1 : Nat) (2147483648 : Int)).set (2 : Nat) (2139095040 : Int)).set (3 : Nat) (4286578688 : Int)).set (4 : Nat) (2143289344 : Int)).set (5 : Nat) (1 : Int)).set (6 : Nat) (2139095039 : Int)).set (7 : Nat) (8388608 : Int)).set (8 : Nat) (8388607 : Int)).set (9 : Nat) (2147483649 : Int)) (dw.pk.sv xs (↑(10 : Nat) : Int) (dw.pk.sv xs (4 : Int) (dw.pk.sv xs (12 : Int) a s).2.1 (dw.pk.sv xs (12 : Int) a s).2.2).2.1 (dw.pk.sv xs (4 : Int) (dw.pk.sv xs (12 : Int) a s).2.1 (dw.pk.sv xs (12 : Int) a s).2.2).2.2).fst.toNat ≤ (4294967295 : Int)) && (true && true || true && true) then some (AVal.flt FloatKind.f32 (gz (((((((((((List.replicate (10 : Nat) (0 : Int)).set (0 : Nat) (0 : Int)).set (1 : Nat) (2147483648 : Int)).set (2 : Nat) (2139095040 : Int)).set (3 : Nat) (4286578688 : Int)).set (4 : Nat) (2143289344 : Int)).set (5 : Nat) (1 : Int)).set (6 : Nat) (2139095039 : Int)).set (7 : Nat) (8388608 : Int)).set (8 : Nat) (8388607 : Int)).set (9 : Nat) (2147483649 : Int)) (dw.pk.sv xs (↑(10 : Nat) : Int) (dw.pk.sv xs (4 : Int) (dw.pk.sv xs (12 : Int) a s).2.1 (dw.pk.sv xs (12 : Int) a s).2.2).2.1 (dw.pk.sv xs (4 : Int) (dw.pk.sv xs (12 : Int) a s).2.1 (dw.pk.sv xs (12 : Int) a s).2.2).2.2).1.toNat).toNat, [{ c := BC.cells [AVal.ro (Cont.ints IntKind.u8 xs) xs.length (1 : Nat), AVal.int IntKind.i64 (dw.pk.sv xs (↑(10 : Nat) : Int) (dw.pk.sv xs (4 : Int) (dw.pk.sv xs (12 : Int) a s).2.1 (dw.pk.sv xs (12 : Int) a s).2.2).2.1 (dw.pk.sv xs (4 : Int) (dw.pk.sv xs (12 : Int) a s).2.1 (dw.pk.sv xs (12 : Int) a s).2.2).2.2).2.1, AVal.int IntKind.u64 (dw.pk.sv xs (↑(10 : Nat) : Int) (dw.pk.sv xs (4 : Int) (dw.pk.sv xs (12 : Int) a s).2.1 (dw.pk.sv xs (12 : Int) a s).2.2).2.1 (dw.pk.sv xs (4 : Int) (dw.pk.sv xs (12 : Int) a s).2.1 (dw.pk.sv xs (12 : Int) a s).2.2).2.2).2.2], ver := (0 : Nat) }]) else none else none else bif (dw.pk.sv xs (4 : Int) (dw.pk.sv xs (12 : Int) a s).2.1 (dw.pk.sv xs (12 : Int) a s).2.2).1 == (1 : Int) then bif decide (xs.length = xs.length ∧ xs.length ≤ (2000000 : Nat) ∧ (0 : Int) ≤ (dw.pk.sv xs (4 : Int) (dw.pk.sv xs (12 : Int) a s).2.1 (dw.pk.sv xs (12 : Int) a s).2.2).2.1 ∧ (dw.pk.sv xs (4 : Int) (dw.pk.sv xs (12 : Int) a s).2.1 (dw.pk.sv xs (12 : Int) a s).2.2).2.1 ≤ (999990 : Int) ∧ (1 : Int) ≤ (65536 : Int) ∧ (65536 : Int) ≤ (65536 : Int)) && r8.bytes.sp xs && (true && (true && true)) then bif decide (xs.length = xs.length ∧ xs.length ≤ (2000000 : Nat) ∧ (0 : Int) ≤ (dw.pk.sv xs (65536 : Int) (dw.pk.sv xs (4 : Int) (dw.pk.sv xs (12 : Int) a s).2.1 (dw.pk.sv xs (12 : Int) a s).2.2).2.1 (dw.pk.sv xs (4 : Int) (dw.pk.sv xs (12 : Int) a s).2.1 (dw.pk.sv xs (12 : Int) a s).2.2).2.2).2.1 ∧ (dw.pk.sv xs (65536 : Int) (dw.pk.sv xs (4 : Int) (dw.pk.sv xs (12 : Int) a s).2.1 (dw.pk.sv xs (12 : Int) a s).2.2).2.1 (dw.pk.sv xs (4 : Int) (dw.pk.sv xs (12 : Int) a s).2.1 (dw.pk.sv xs (12 : Int) a s).2.2).2.2).2.1 ≤ (999990 : Int) ∧ (1 : Int) ≤ (65536 : Int) ∧ (65536 : Int) ≤ (65536 : Int)) && r8.bytes.sp xs && (true && (true && true)) then bif decide ((0 : Int) ≤ IntKind.i64.wrap (IntKind.i64.wrap ((dw.pk.sv xs (65536 : Int) (dw.pk.sv xs (4 : Int) (dw.pk.sv xs (12 : Int) a s).2.1 (dw.pk.sv xs (12 : Int) a s).2.2).2.1 (dw.pk.sv xs (4 : Int) (dw.pk.sv xs (12 : Int) a s).2.1 (dw.pk.sv xs (12 : Int) a s).2.2).2.2).1 * (65536 : Int)) + (dw.pk.sv xs (65536 : Int) (dw.pk.sv xs (65536 : Int) (dw.pk.sv xs (4 : Int) (dw.pk.sv xs (12 : Int) a s).2.1 (dw.pk.sv xs (12 : Int) a s).2.2).2.1 (dw.pk.sv xs (4 : Int) (dw.pk.sv xs (12 : Int) a s).2.1 (dw.pk.sv xs (12 : Int) a s).2.2).2.2).2.1 (dw.pk.sv xs (65536 : Int) (dw.pk.sv xs (4 : Int) (dw.pk.sv xs (12 : Int) a s).2.1 (dw.pk.sv xs (12 : Int) a s).2.2).2.1 (dw.pk.sv xs (4 : Int) (dw.pk.sv xs (12 : Int) a s).2.1 (dw.pk.sv xs (12 : Int) a s).2.2).2.2).2.2).1) ∧ IntKind.i64.wrap (IntKind.i64.wrap ((dw.pk.sv xs (65536 : Int) (dw.pk.sv xs (4 : Int) (dw.pk.sv xs (12 : Int) a s).2.1 (dw.pk.sv xs (12 : Int) a s).2.2).2.1 (dw.pk.sv xs (4 : Int) (dw.pk.sv xs (12 : Int) a s).2.1 (dw.pk.sv xs (12 : Int) a s).2.2).2.2).1 * (65536 : Int)) + (dw.pk.sv xs (65536 : Int) (dw.pk.sv xs (65536 : Int) (dw.pk.sv xs (4 : Int) (dw.pk.sv xs (12 : Int) a s).2.1 (dw.pk.sv xs (12 : Int) a s).2.2).2.1 (dw.pk.sv xs (4 : Int) (dw.pk.sv xs (12 : Int) a s).2.1 (dw.pk.sv xs (12 : Int) a s).2.2).2.2).2.1 (dw.pk.sv xs (65536 : Int) (dw.pk.sv xs (4 : Int) (dw.pk.sv xs (12 : Int) a s).2.1 (dw.pk.sv xs (12 : Int) a s).2.2).2.1 (dw.pk.sv xs (4 : Int) (dw.pk.sv xs (12 : Int) a s).2.1 (dw.pk.sv xs (12 : Int) a s).2.2).2.2).2.2).1) ≤ (4294967295 : Int)) && (true && true || true && true) then some (AVal.flt FloatKind.f32 (IntKind.i64.wrap (IntKind.i64.wrap ((dw.pk.sv xs (65536 : Int) (dw.pk.sv xs (4 : Int) (dw.pk.sv xs (12 : Int) a s).2.1 (dw.pk.sv xs (12 : Int) a s).2.2).2.1 (dw.pk.sv xs (4 : Int) (dw.pk.sv xs (12 : Int) a s).2.1 (dw.pk.sv xs (12 : Int) a s).2.2).2.2).1 * (65536 : Int)) + (dw.pk.sv xs (65536 : Int) (dw.pk.sv xs (65536 : Int) (dw.pk.sv xs (4 : Int) (dw.pk.sv xs (12 : Int) a s).2.1 (dw.pk.sv xs (12 : Int) a s).2.2).2.1 (dw.pk.sv xs (4 : Int) (dw.pk.sv xs (12 : Int) a s).2.1 (dw.pk.sv xs (12 : Int) a s).2.2).2.2).2.1 (dw.pk.sv xs (65536 : Int) (dw.pk.sv xs (4 : Int) (dw.pk.sv xs (12 : Int) a s).2.1 (dw.pk.sv xs (12 : Int) a s).2.2).2.1 (dw.pk.sv xs (4 : Int) (dw.pk.sv xs (12 : Int) a s).2.1 (dw.pk.sv xs (12 : Int) a s).2.2).2.2).2.2).1)).toNat, [{ c := BC.cells [AVal.ro (Cont.ints IntKind.u8 xs) xs.length (1 : Nat), AVal.int IntKind.i64 (dw.pk.sv xs (65536 : Int) (dw.pk.sv xs (65536 : Int) (dw.pk.sv xs (4 : Int) (dw.pk.sv xs (12 : Int) a s).2.1 (dw.pk.sv xs (12 : Int) a s).2.2).2.1 (dw.pk.sv xs (4 : Int) (dw.pk.sv xs (12 : Int) a s).2.1 (dw.pk.sv xs (12 : Int) a s).2.2).2.2).2.1 (dw.pk.sv xs (65536 : Int) (dw.pk.sv xs (4 : Int) (dw.pk.sv xs (12 : Int) a s).2.1 (dw.pk.sv xs (12 : Int) a s).2.2).2.1 (dw.pk.sv xs (4 : Int) (dw.pk.sv xs (12 : Int) a s).2.1 (dw.pk.sv xs (12 : Int) a s).2.2).2.2).2.2).2.1, AVal.int IntKind.u64 (dw.pk.sv xs (65536 : Int) (dw.pk.sv xs (65536 : Int) (dw.pk.sv xs (4 : Int) (dw.pk.sv xs (12 : Int) a s).2.1 (dw.pk.sv xs (12 : Int) a s).2.2).2.1 (dw.pk.sv xs (4 : Int) (dw.pk.sv xs (12 : Int) a s).2.1 (dw.pk.sv xs (12 : Int) a s).2.2).2.2).2.1 (dw.pk.sv xs (65536 : Int) (dw.pk.sv xs (4 : Int) (dw.pk.sv xs (12 : Int) a s).2.1 (dw.pk.sv xs (12 : Int) a s).2.2).2.1 (dw.pk.sv xs (4 : Int) (dw.pk.sv xs (12 : Int) a s).2.1 (dw.pk.sv xs (12 : Int) a s).2.2).2.2).2.2).2.2], ver := (0 : Nat) }]) else none else none else none else bif (dw.pk.sv xs (4 : Int) (dw.pk.sv xs (12 : Int) a s).2.1 (dw.pk.sv xs (12 : Int) a s).2.2).1 == (2 : Int) then bif decide (xs.length = xs.length ∧ xs.length ≤ (2000000 : Nat) ∧ (0 : Int) ≤ (dw.pk.sv xs (4 : Int) (dw.pk.sv xs (12 : Int) a s).2.1 (dw.pk.sv xs (12 : Int) a s).2.2).2.1 ∧ (dw.pk.sv xs (4 : Int) (dw.pk.sv xs (12 : Int) a s).2.1 (dw.pk.sv xs (12 : Int) a s).2.2).2.1 ≤ (999990 : Int) ∧ (1 : Int) ≤ (65536 : Int) ∧ (65536 : Int) ≤ (65536 : Int)) && r8.bytes.sp xs && (true && (true && true)) then bif decide ((0 : Int) ≤ IntKind.i64.wrap ((dw.pk.sv xs (65536 : Int) (dw.pk.sv xs (4 : Int) (dw.pk.sv xs (12 : Int) a s).2.1 (dw.pk.sv xs (12 : Int) a s).2.2).2.1 (dw.pk.sv xs (4 : Int) (dw.pk.sv xs (12 : Int) a s).2.1 (dw.pk.sv xs (12 : Int) a s).2.2).2.2).1 * (65536 : Int)) ∧ IntKind.i64.wrap ((dw.pk.sv xs (65536 : Int) (dw.pk.sv xs (4 : Int) (dw.pk.sv xs (12 : Int) a s).2.1 (dw.pk.sv xs (12 : Int) a s).2.2).2.1 (dw.pk.sv xs (4 : Int) (dw.pk.sv xs (12 : Int) a s).2.1 (dw.pk.sv xs (12 : Int) a s).2.2).2.2).1 * (65536 : Int)) ≤ (4294967295 : Int)) && (true && true || true && true) then some (AVal.flt FloatKind.f32 (IntKind.i64.wrap ((dw.pk.sv xs (65536 : Int) (dw.pk.sv xs (4 : Int) (dw.pk.sv xs (12 : Int) a s).2.1 (dw.pk.sv xs (12 : Int) a s).2.2).2.1 (dw.pk.sv xs (4 : Int) (dw.pk.sv xs (12 : Int) a s).2.1 (dw.pk.sv xs (12 : Int) a s).2.2).2.2).1 * (65536 : Int))).toNat, [{ c := BC.cells [AVal.ro (Cont.ints IntKind.u8 xs) xs.length (1 : Nat), AVal.int IntKind.i64 (dw.pk.sv xs (65536 : Int) (dw.pk.sv xs (4 : Int) (dw.pk.sv xs (12 : Int) a s).2.1 (dw.pk.sv xs (12 : Int) a s).2.2).2.1 (dw.pk.sv xs (4 : Int) (dw.pk.sv xs (12 : Int) a s).2.1 (dw.pk.sv xs (12 : Int) a s).2.2).2.2).2.1, AVal.int IntKind.u64 (dw.pk.sv xs (65536 : Int) (dw.pk.sv xs (4 : Int) (dw.pk.sv xs (12 : Int) a s).2.1 (dw.pk.sv xs (12 : Int) a s).2.2).2.1 (dw.pk.sv xs (4 : Int) (dw.pk.sv xs (12 : Int) a s).2.1 (dw.pk.sv xs (12 : Int) a s).2.2).2.2).2.2], ver := (0 : Nat) }]) else none else none else bif decide (xs.length = xs.length ∧ xs.length ≤ (2000000 : Nat) ∧ (0 : Int) ≤ (dw.pk.sv xs (4 : Int) (dw.pk.sv xs (12 : Int) a s).2.1 (dw.pk.sv xs (12 : Int) a s).2.2).2.1 ∧ (dw.pk.sv xs (4 : Int) (dw.pk.sv xs (12 : Int) a s).2.1 (dw.pk.sv xs (12 : Int) a s).2.2).2.1 ≤ (999980 : Int)) && r8.bytes.sp xs && (true && (true && true)) then bif decide (xs.length = xs.length ∧ xs.length ≤ (2000000 : Nat) ∧ (0 : Int) ≤ (dw.pl.sv xs (dw.pk.sv xs (4 : Int) (dw.pk.sv xs (12 : Int) a s).2.1 (dw.pk.sv xs (12 : Int) a s).2.2).2.1 (dw.pk.sv xs (4 : Int) (dw.pk.sv xs (12 : Int) a s).2.1 (dw.pk.sv xs (12 : Int) a s).2.2).2.2).2.1 ∧ (dw.pl.sv xs (dw.pk.sv xs (4 : Int) (dw.pk.sv xs (12 : Int) a s).2.1 (dw.pk.sv xs (12 : Int) a s).2.2).2.1 (dw.pk.sv xs (4 : Int) (dw.pk.sv xs (12 : Int) a s).2.1 (dw.pk.sv xs (12 : Int) a s).2.2).2.2).2.1 ≤ (999990 : Int) ∧ (4 : Nat) = (((((List.replicate (4 : Nat) (0 : Int)).set (0 : Nat) (8388608 : Int)).set (1 : Nat) (2130706432 : Int)).set (2 : Nat) (1610612736 : Int)).set (3 : Nat) (536870912 : Int)).length ∧ (1 : Nat) ≤ (4 : Nat) ∧ (4 : Nat) ≤ (1000 : Nat)) && r8.bytes.sp xs && (true && (true && true)) then bif decide ((0 : Int) ≤ gz (((((List.replicate (4 : Nat) (0 : Int)).set (0 : Nat) (8388608 : Int)).set (1 : Nat) (2130706432 : Int)).set (2 : Nat) (1610612736 : Int)).set (3 : Nat) (536870912 : Int)) (dw.pk.sv xs (↑(4 : Nat) : Int) (dw.pl.sv xs (dw.pk.sv xs (4 : Int) (dw.pk.sv xs (12 : Int) a s).2.1 (dw.pk.sv xs (12 : Int) a s).2.2).2.1 (dw.pk.sv xs (4 : Int) (dw.pk.sv xs (12 : Int) a s).2.1 (dw.pk.sv xs (12 : Int) a s).2.2).2.2).2.1 (dw.pl.sv xs (dw.pk.sv xs (4 : Int) (dw.pk.sv xs (12 : Int) a s).2.1 (dw.pk.sv xs (12 : Int) a s).2.2).2.1 (dw.pk.sv xs (4 : Int) (dw.pk.sv xs (12 : Int) a s).2.1 (dw.pk.sv xs (12 : Int) a s).2.2).2.2).2.2).fst.toNat ∧ gz (((((List.replicate (4 : Nat) (0 : Int)).set (0 : Nat) (8388608 : Int)).set (1 : Nat) (2130706432 : Int)).set (2 : Nat) (1610612736 : Int)).set (3 : Nat) (536870912 : Int)) (dw.pk.sv xs (↑(4 : Nat) : Int) (dw.pl.sv xs (dw.pk.sv xs (4 : Int) (dw.pk.sv xs (12 : Int) a s).2.1 (dw.pk.sv xs (12 : Int) a s).2.2).2.1 (dw.pk.sv xs (4 : Int) (dw.pk.sv xs (12 : Int) a s).2.1 (dw.pk.sv xs (12 : Int) a s).2.2).2.2).2.1 (dw.pl.sv xs (dw.pk.sv xs (4 : Int) (dw.pk.sv xs (12 : Int) a s).2.1 (dw.pk.sv xs (12 : Int) a s).2.2).2.1 (dw.pk.sv xs (4 : Int) (dw.pk.sv xs (12 : Int) a s).2.1 (dw.pk.sv xs (12 : Int) a s).2.2).2.2).2.2).fst.toNat ≤ (4294967295 : Int)) && (true && true || true && true) then some (AVal.flt FloatKind.f32 (fmul FloatKind.f32 (dw.pl.sv xs (dw.pk.sv xs (4 : Int) (dw.pk.sv xs (12 : Int) a s).2.1 (dw.pk.sv xs (12 : Int) a s).2.2).2.1 (dw.pk.sv xs (4 : Int) (dw.pk.sv xs (12 : Int) a s).2.1 (dw.pk.sv xs (12 : Int) a s).2.2).2.2).1 (gz (((((List.replicate (4 : Nat) (0 : Int)).set (0 : Nat) (8388608 : Int)).set (1 : Nat) (2130706432 : Int)).set (2 : Nat) (1610612736 : Int)).set (3 : Nat) (536870912 : Int)) (dw.pk.sv xs (↑(4 : Nat) : Int) (dw.pl.sv xs (dw.pk.sv xs (4 : Int) (dw.pk.sv xs (12 : Int) a s).2.1 (dw.pk.sv xs (12 : Int) a s).2.2).2.1 (dw.pk.sv xs (4 : Int) (dw.pk.sv xs (12 : Int) a s).2.1 (dw.pk.sv xs (12 : Int) a s).2.2).2.2).2.1 (dw.pl.sv xs (dw.pk.sv xs (4 : Int) (dw.pk.sv xs (12 : Int) a s).2.1 (dw.pk.sv xs (12 : Int) a s).2.2).2.1 (dw.pk.sv xs (4 : Int) (dw.pk.sv xs (12 : Int) a s).2.1 (dw.pk.sv xs (12 : Int) a s).2.2).2.2).2.2).1.toNat).toNat), [{ c := BC.cells [AVal.ro (Cont.ints IntKind.u8 xs) xs.length (1 : Nat), AVal.int IntKind.i64 (dw.pk.sv xs (↑(4 : Nat) : Int) (dw.pl.sv xs (dw.pk.sv xs (4 : Int) (dw.pk.sv xs (12 : Int) a s).2.1 (dw.pk.sv xs (12 : Int) a s).2.2).2.1 (dw.pk.sv xs (4 : Int) (dw.pk.sv xs (12 : Int) a s).2.1 (dw.pk.sv xs (12 : Int) a s).2.2).2.2).2.1 (dw.pl.sv xs (dw.pk.sv xs (4 : Int) (dw.pk.sv xs (12 : Int) a s).2.1 (dw.pk.sv xs (12 : Int) a s).2.2).2.1 (dw.pk.sv xs (4 : Int) (dw.pk.sv xs (12 : Int) a s).2.1 (dw.pk.sv xs (12 : Int) a s).2.2).2.2).2.2).2.1, AVal.int IntKind.u64 (dw.pk.sv xs (↑(4 : Nat) : Int) (dw.pl.sv xs (dw.pk.sv xs (4 : Int) (dw.pk.sv xs (12 : Int) a s).2.1 (dw.pk.sv xs (12 : Int) a s).2.2).2.1 (dw.pk.sv xs (4 : Int) (dw.pk.sv xs (12 : Int) a s).2.1 (dw.pk.sv xs (12 : Int) a s).2.2).2.2).2.1 (dw.pl.sv xs (dw.pk.sv xs (4 : Int) (dw.pk.sv xs (12 : Int) a s).2.1 (dw.pk.sv xs (12 : Int) a s).2.2).2.1 (dw.pk.sv xs (4 : Int) (dw.pk.sv xs (12 : Int) a s).2.1 (dw.pk.sv xs (12 : Int) a s).2.2).2.2).2.2).2.2], ver := (0 : Nat) }]) else none else none else none else none else none else none) := by kernel_rfl
theorem run : ∀ args H v new, R args H = some (true, v, new) → ∃ fuel, runFn Tryz.prog (orcW [⟨39, bPk.R⟩, ⟨51, bOn.R⟩, ⟨78, bAm.R⟩, ⟨77, l01DrawPlain.R⟩] [⟨52, l01From.R⟩]) hd0 Dr.std (some 0) fuel (bodyOf Tryz.f53) 40 [2] args H = some (v, new) := by
  intro args H v new h
  unfold R at h
  split at h
  · rename_i xs m a s
    simp only [Option.some.injEq, Prod.mk.injEq, Bool.and_eq_true, decide_eq_true_eq] at h
    obtain ⟨⟨⟨rfl, h1, h2, h3⟩, hb⟩, rfl, rfl⟩ := h
    refine ⟨0, ?_⟩
    have q12 := dw.pk_in hb (n := 12) (by decide) a s
    have q4 := dw.pk_in hb (n := 4) (by decide) (dw.pk.sv xs 12 a s).2.1 (dw.pk.sv xs 12 a s).2.2
    obtain ⟨b, hbq⟩ : ∃ b, b = dw.pk.sv xs 12 a s := ⟨_, rfl⟩
    obtain ⟨q, hq⟩ : ∃ q, q = dw.pk.sv xs 4 b.2.1 b.2.2 := ⟨_, rfl⟩
    rw [← hbq] at q12 q4
    rw [← hq] at q4
    have p10 := dw.pk_in hb (n := 10) (by decide) q.2.1 q.2.2
    have p6 := dw.pk_in hb (n := 65536) (by decide) q.2.1 q.2.2
    have p7 := dw.pk_in hb (n := 65536) (by decide) (dw.pk.sv xs 65536 q.2.1 q.2.2).2.1 (dw.pk.sv xs 65536 q.2.1 q.2.2).2.2
    have pp := dw.pl_in hb q.2.1 q.2.2
    have p4 := dw.pk_in hb (n := 4) (by decide) (dw.pl.sv xs q.2.1 q.2.2).2.1 (dw.pl.sv xs q.2.1 q.2.2).2.2
    have g10 := dw.l10_in (dw.pk.sv xs 10 q.2.1 q.2.2).1.toNat (by omega)
    have g4 := dw.l4_in (dw.pk.sv xs 4 (dw.pl.sv xs q.2.1 q.2.2).2.1 (dw.pl.sv xs q.2.1 q.2.2).2.2).1.toNat (by omega)
    rw [go]
    unfold dw.df.sv
    rw [← hbq, ← hq]
    have e10 : (((((((((((List.replicate 10 (0 : Int)).set 0 0).set 1 2147483648).set 2 2139095040).set 3 4286578688).set 4 2143289344).set 5 1).set 6 2139095039).set 7 8388608).set 8 8388607).set 9 2147483649) = dw.l10 := rfl
    have e4 : (((((List.replicate 4 (0 : Int)).set 0 8388608).set 1 2130706432).set 2 1610612736).set 3 536870912) = dw.l4 := rfl
    have z10 : ((10 : Nat) : Int) = 10 := rfl
    have z4 : ((4 : Nat) : Int) = 4 := rfl
    have k10 : dw.l10.length = 10 := rfl
    have k4 : dw.l4.length = 4 := rfl
    rw [e10, e4, z10, z4, k10, k4]
    unfold dw.dg.sv dw.wd.sv
    simp -implicitDefEqProofs (disch := omega) only [hb, take_one, set_one, decide_eq_true, decide_eq_false, IntWalk.i64_in, beqT, beqF, bneT, bneF, nat_succ, ← Int.natCast_mul, ← Int.natCast_add, Int.toNat_natCast, Int.zero_mul, Int.zero_add, Int.add_zero, Nat.zero_add, Nat.add_zero, Nat.zero_mul, List.length_singleton, List.length_append, List.length_nil, List.length_cons, List.take_length, List.drop_zero, List.replicate_zero, List.take_nil, List.nil_append, Nat.reduceBEq, Nat.reduceMul, Nat.reduceLeDiff, eq_self, and_self, true_and, and_true, decide_true, decide_false, Bool.and_self, Bool.or_self, Bool.and_true, Bool.true_and, Bool.and_false, Bool.false_and, Bool.or_true, Bool.true_or, Bool.or_false, Bool.false_or, Bool.not_true, Bool.not_false, cond_true, cond_false]
    cases b.1 == 0
    · rfl
    · cases q.1 == 0
      · cases q.1 == 1
        · cases q.1 == 2 <;> rfl
        · rfl
      · rfl
  · cases h
theorem ok : EntWOk Tryz.prog ⟨53, R⟩ :=
  entw_ok mixed (A := (orcW [⟨39, bPk.R⟩, ⟨51, bOn.R⟩, ⟨78, bAm.R⟩, ⟨77, l01DrawPlain.R⟩] [⟨52, l01From.R⟩])) (orcW_ok (by simp only [List.mem_cons, List.not_mem_nil, or_false, forall_eq_or_imp, forall_eq]; exact ⟨bPk.ok, bOn.ok, bAm.ok, l01DrawPlain.ok⟩) (by simp only [List.mem_cons, List.not_mem_nil, or_false, forall_eq_or_imp, forall_eq]; exact l01From.ok)) Tryz.func53 (by kernel_rfl) (by kernel_rfl) (n := 40) (ts := [2]) (hd := hd0) (dr := Dr.std) (cut := (some 0)) (by kernel_rfl) (by kernel_rfl) (by kernel_rfl) run
end l01DrawFloat

end Go.Proofs.YtjhofofieiiplaaGreatDoor.Ab
