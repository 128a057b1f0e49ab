/-
  Functions: convex, joining and rising worths.
-/
import Derived.Test.YtekadpddilfolaaFnC1
import Derived.Test.YtekadpddilfolaaFnWF
import Derived.Test.YtekadpddilfolaaFnZA
import Derived.Test.YtekadpddilfolaaFnB
import Derived.Test.YtekadpddilfolaaFnVS
namespace Go.Proofs.Ytekadpddilfolaa.Ab
open Go
set_option linter.unusedVariables false
set_option linter.unusedSimpArgs false
set_option maxRecDepth 100000

namespace cloConv
def R : List AVal → Option (Bool × AVal × List Blk)
  | [.int .i64 a, .int .i64 b, .rom [.int .i64 p, .ro (.ints .i64 ws) m 1] 0] => some (decide (m = ws.length ∧ 0 ≤ a ∧ a < ws.length ∧ 0 ≤ b ∧ b < ws.length) && wo.sp p ws, .bool (co.conv.sp ws a.toNat b.toNat), [])
  | _ => none
theorem go (a b p : Int) (ws : List Int) :
  runFn Try.prog (orc []) hd0 Dr.std none 0 (bodyOf Try.f56) 33 [5] [.int .i64 a, .int .i64 b, .rom [.int .i64 p, .ro (.ints .i64 ws) ws.length 1] 0] []
  = (bif true && (decide ((0 : Int) ≤ a) && decide (a < (↑ws.length : Int))) then bif decide (a.toNat < ws.length) then bif true && (decide ((0 : Int) ≤ b) && decide (b < (↑ws.length : Int))) then bif decide (b.toNat < ws.length) then bif true && (decide ((0 : Int) ≤ ior.sv IntKind.i64 a b) && decide (ior.sv IntKind.i64 a b < (↑ws.length : Int))) then bif decide ((ior.sv IntKind.i64 a b).toNat < ws.length) then bif true && (decide ((0 : Int) ≤ iand.sv IntKind.i64 a b) && decide (iand.sv IntKind.i64 a b < (↑ws.length : Int))) then bif decide ((iand.sv IntKind.i64 a b).toNat < ws.length) then some (AVal.bool (decide (IntKind.i64.wrap (gz ws a.toNat + gz ws b.toNat) ≤ IntKind.i64.wrap (gz ws (ior.sv IntKind.i64 a b).toNat + gz ws (iand.sv IntKind.i64 a b).toNat))), []) else none else none else none else none else none else none else none else none) := by kernel_rfl
theorem run : ∀ args v new, R args = some (true, v, new) → ∃ fuel, runFn Try.prog (orc []) hd0 Dr.std none fuel (bodyOf Try.f56) 33 [5] args [] = some (v, new) := by
  intro args v new h
  unfold R at h
  split at h
  · rename_i a b p ws m
    simp only [Option.some.injEq, Prod.mk.injEq, Bool.and_eq_true, decide_eq_true_eq] at h
    obtain ⟨⟨⟨rfl, h1, h2, h3, h4⟩, hs⟩, rfl, rfl⟩ := h
    have hs2 := hs
    obtain ⟨p, rfl, hp, hw, h0, v⟩ := wo.valid hs2
    have h64 := wo.pow_le hp.2
    have h1p := wo.pow_pos p
    obtain ⟨a, rfl⟩ : ∃ q : Nat, a = q := ⟨a.toNat, by omega⟩
    obtain ⟨b, rfl⟩ : ∃ q : Nat, b = q := ⟨b.toNat, by omega⟩
    have s1 := co.ior_nat a (by omega) b (by omega)
    have s2 := vo.iand_nat a (by omega) b (by omega)
    have s3 := co.iandn_nat a (by omega) b (by omega)
    have o1 : a ||| b < ws.length := by rw [hw]; exact Nat.or_lt_two_pow (by omega) (by omega)
    have o2 : a &&& b < ws.length := co.and_lt b (by omega)
    have b1 := wo.gz_in v a
    have b2 := wo.gz_in v b
    have b3 := wo.gz_in v (a ||| b)
    have b4 := wo.gz_in v (a &&& b)
    refine ⟨0, ?_⟩
    rw [go, Int.toNat_natCast, Int.toNat_natCast, co.conv.sp]
    simp -implicitDefEqProofs (disch := omega) only [s1, s2, take_one, set_one, decide_eq_true, decide_eq_false, IntWalk.i64_in, beqT, beqF, bneT, bneF, nat_succ, ← Int.natCast_mul, ← Int.natCast_add, Int.toNat_natCast, Int.zero_mul, Int.zero_add, Int.add_zero, Nat.zero_add, Nat.add_zero, Nat.zero_mul, List.length_singleton, List.length_append, List.length_nil, List.length_cons, List.take_length, List.drop_zero, List.replicate_zero, List.take_nil, List.nil_append, Nat.reduceBEq, Nat.reduceMul, Nat.reduceLeDiff, eq_self, and_self, true_and, and_true, decide_true, decide_false, Bool.and_self, Bool.or_self, Bool.and_true, Bool.true_and, Bool.and_false, Bool.false_and, Bool.or_true, Bool.true_or, Bool.or_false, Bool.false_or, Bool.not_true, Bool.not_false, cond_true, cond_false]
  · cases h
theorem ok : EntOk Try.prog ⟨56, R⟩ :=
  ent_okA mixed (A := (orc [])) (orc_ok (by simp)) Try.func56 (by kernel_rfl) (by kernel_rfl) (n := 33) (ts := [5]) (hd := hd0) (dr := Dr.std) (cut := none) (by kernel_rfl) (by kernel_rfl) (by kernel_rfl) run
end cloConv

namespace cloJoin
def R : List AVal → Option (Bool × AVal × List Blk)
  | [.int .i64 a, .int .i64 b, .rom [.int .i64 p, .ro (.ints .i64 ws) m 1] 0] => some (decide (m = ws.length ∧ 0 ≤ a ∧ a < ws.length ∧ 0 ≤ b ∧ b < ws.length) && wo.sp p ws, .bool (co.join.sp ws a.toNat b.toNat), [])
  | _ => none
theorem go (a b p : Int) (ws : List Int) :
  runFn Try.prog (orc []) hd0 Dr.std none 0 (bodyOf Try.f57) 31 [5] [.int .i64 a, .int .i64 b, .rom [.int .i64 p, .ro (.ints .i64 ws) ws.length 1] 0] []
  = (bif iand.sv IntKind.i64 a b != (0 : Int) then some (AVal.bool true, []) else bif true && (decide ((0 : Int) ≤ ior.sv IntKind.i64 a b) && decide (ior.sv IntKind.i64 a b < (↑ws.length : Int))) then bif decide ((ior.sv IntKind.i64 a b).toNat < ws.length) then bif true && (decide ((0 : Int) ≤ a) && decide (a < (↑ws.length : Int))) then bif decide (a.toNat < ws.length) then bif true && (decide ((0 : Int) ≤ b) && decide (b < (↑ws.length : Int))) then bif decide (b.toNat < ws.length) then some (AVal.bool (decide (IntKind.i64.wrap (gz ws a.toNat + gz ws b.toNat) ≤ gz ws (ior.sv IntKind.i64 a b).toNat)), []) else none else none else none else none else none else none) := by kernel_rfl
theorem run : ∀ args v new, R args = some (true, v, new) → ∃ fuel, runFn Try.prog (orc []) hd0 Dr.std none fuel (bodyOf Try.f57) 31 [5] args [] = some (v, new) := by
  intro args v new h
  unfold R at h
  split at h
  · rename_i a b p ws m
    simp only [Option.some.injEq, Prod.mk.injEq, Bool.and_eq_true, decide_eq_true_eq] at h
    obtain ⟨⟨⟨rfl, h1, h2, h3, h4⟩, hs⟩, rfl, rfl⟩ := h
    have hs2 := hs
    obtain ⟨p, rfl, hp, hw, h0, v⟩ := wo.valid hs2
    have h64 := wo.pow_le hp.2
    have h1p := wo.pow_pos p
    obtain ⟨a, rfl⟩ : ∃ q : Nat, a = q := ⟨a.toNat, by omega⟩
    obtain ⟨b, rfl⟩ : ∃ q : Nat, b = q := ⟨b.toNat, by omega⟩
    have s1 := co.ior_nat a (by omega) b (by omega)
    have s2 := vo.iand_nat a (by omega) b (by omega)
    have s3 := co.iandn_nat a (by omega) b (by omega)
    have o1 : a ||| b < ws.length := by rw [hw]; exact Nat.or_lt_two_pow (by omega) (by omega)
    have o2 : a &&& b < ws.length := co.and_lt b (by omega)
    have b1 := wo.gz_in v a
    have b2 := wo.gz_in v b
    have b3 := wo.gz_in v (a ||| b)
    have b4 := wo.gz_in v (a &&& b)
    refine ⟨0, ?_⟩
    rw [go, Int.toNat_natCast, Int.toNat_natCast, co.join.sp]
    by_cases c : a &&& b = 0
    · simp -implicitDefEqProofs (disch := omega) only [s1, s2, take_one, set_one, decide_eq_true, decide_eq_false, IntWalk.i64_in, beqT, beqF, bneT, bneF, nat_succ, ← Int.natCast_mul, ← Int.natCast_add, Int.toNat_natCast, Int.zero_mul, Int.zero_add, Int.add_zero, Nat.zero_add, Nat.add_zero, Nat.zero_mul, List.length_singleton, List.length_append, List.length_nil, List.length_cons, List.take_length, List.drop_zero, List.replicate_zero, List.take_nil, List.nil_append, Nat.reduceBEq, Nat.reduceMul, Nat.reduceLeDiff, eq_self, and_self, true_and, and_true, decide_true, decide_false, Bool.and_self, Bool.or_self, Bool.and_true, Bool.true_and, Bool.and_false, Bool.false_and, Bool.or_true, Bool.true_or, Bool.or_false, Bool.false_or, Bool.not_true, Bool.not_false, cond_true, cond_false]
      try rfl
    · simp -implicitDefEqProofs (disch := omega) only [s1, s2, take_one, set_one, decide_eq_true, decide_eq_false, IntWalk.i64_in, beqT, beqF, bneT, bneF, nat_succ, ← Int.natCast_mul, ← Int.natCast_add, Int.toNat_natCast, Int.zero_mul, Int.zero_add, Int.add_zero, Nat.zero_add, Nat.add_zero, Nat.zero_mul, List.length_singleton, List.length_append, List.length_nil, List.length_cons, List.take_length, List.drop_zero, List.replicate_zero, List.take_nil, List.nil_append, Nat.reduceBEq, Nat.reduceMul, Nat.reduceLeDiff, eq_self, and_self, true_and, and_true, decide_true, decide_false, Bool.and_self, Bool.or_self, Bool.and_true, Bool.true_and, Bool.and_false, Bool.false_and, Bool.or_true, Bool.true_or, Bool.or_false, Bool.false_or, Bool.not_true, Bool.not_false, cond_true, cond_false]
      try rfl
  · cases h
theorem ok : EntOk Try.prog ⟨57, R⟩ :=
  ent_okA mixed (A := (orc [])) (orc_ok (by simp)) Try.func57 (by kernel_rfl) (by kernel_rfl) (n := 31) (ts := [5]) (hd := hd0) (dr := Dr.std) (cut := none) (by kernel_rfl) (by kernel_rfl) (by kernel_rfl) run
end cloJoin

namespace cloRise
def R : List AVal → Option (Bool × AVal × List Blk)
  | [.int .i64 a, .int .i64 b, .rom [.int .i64 p, .ro (.ints .i64 ws) m 1] 0] => some (decide (m = ws.length ∧ 0 ≤ a ∧ a < ws.length ∧ 0 ≤ b ∧ b < ws.length) && wo.sp p ws, .bool (co.rise.sp ws a.toNat b.toNat), [])
  | _ => none
theorem go (a b p : Int) (ws : List Int) :
  runFn Try.prog (orc []) hd0 Dr.std none 0 (bodyOf Try.f58) 23 [5] [.int .i64 a, .int .i64 b, .rom [.int .i64 p, .ro (.ints .i64 ws) ws.length 1] 0] []
  = (bif iandn.sv IntKind.i64 a b != (0 : Int) then some (AVal.bool true, []) else bif true && (decide ((0 : Int) ≤ a) && decide (a < (↑ws.length : Int))) then bif decide (a.toNat < ws.length) then bif true && (decide ((0 : Int) ≤ b) && decide (b < (↑ws.length : Int))) then bif decide (b.toNat < ws.length) then some (AVal.bool (decide (gz ws a.toNat ≤ gz ws b.toNat)), []) else none else none else none else none) := by kernel_rfl
theorem run : ∀ args v new, R args = some (true, v, new) → ∃ fuel, runFn Try.prog (orc []) hd0 Dr.std none fuel (bodyOf Try.f58) 23 [5] args [] = some (v, new) := by
  intro args v new h
  unfold R at h
  split at h
  · rename_i a b p ws m
    simp only [Option.some.injEq, Prod.mk.injEq, Bool.and_eq_true, decide_eq_true_eq] at h
    obtain ⟨⟨⟨rfl, h1, h2, h3, h4⟩, hs⟩, rfl, rfl⟩ := h
    have hs2 := hs
    obtain ⟨p, rfl, hp, hw, h0, v⟩ := wo.valid hs2
    have h64 := wo.pow_le hp.2
    have h1p := wo.pow_pos p
    obtain ⟨a, rfl⟩ : ∃ q : Nat, a = q := ⟨a.toNat, by omega⟩
    obtain ⟨b, rfl⟩ : ∃ q : Nat, b = q := ⟨b.toNat, by omega⟩
    have s1 := co.ior_nat a (by omega) b (by omega)
    have s2 := vo.iand_nat a (by omega) b (by omega)
    have s3 := co.iandn_nat a (by omega) b (by omega)
    have o1 : a ||| b < ws.length := by rw [hw]; exact Nat.or_lt_two_pow (by omega) (by omega)
    have o2 : a &&& b < ws.length := co.and_lt b (by omega)
    have b1 := wo.gz_in v a
    have b2 := wo.gz_in v b
    have b3 := wo.gz_in v (a ||| b)
    have b4 := wo.gz_in v (a &&& b)
    refine ⟨0, ?_⟩
    rw [go, Int.toNat_natCast, Int.toNat_natCast, co.rise.sp]
    by_cases c : a - (a &&& b) = 0
    · simp -implicitDefEqProofs (disch := omega) only [s3, take_one, set_one, decide_eq_true, decide_eq_false, IntWalk.i64_in, beqT, beqF, bneT, bneF, nat_succ, ← Int.natCast_mul, ← Int.natCast_add, Int.toNat_natCast, Int.zero_mul, Int.zero_add, Int.add_zero, Nat.zero_add, Nat.add_zero, Nat.zero_mul, List.length_singleton, List.length_append, List.length_nil, List.length_cons, List.take_length, List.drop_zero, List.replicate_zero, List.take_nil, List.nil_append, Nat.reduceBEq, Nat.reduceMul, Nat.reduceLeDiff, eq_self, and_self, true_and, and_true, decide_true, decide_false, Bool.and_self, Bool.or_self, Bool.and_true, Bool.true_and, Bool.and_false, Bool.false_and, Bool.or_true, Bool.true_or, Bool.or_false, Bool.false_or, Bool.not_true, Bool.not_false, cond_true, cond_false]
      try rfl
    · simp -implicitDefEqProofs (disch := omega) only [s3, take_one, set_one, decide_eq_true, decide_eq_false, IntWalk.i64_in, beqT, beqF, bneT, bneF, nat_succ, ← Int.natCast_mul, ← Int.natCast_add, Int.toNat_natCast, Int.zero_mul, Int.zero_add, Int.add_zero, Nat.zero_add, Nat.add_zero, Nat.zero_mul, List.length_singleton, List.length_append, List.length_nil, List.length_cons, List.take_length, List.drop_zero, List.replicate_zero, List.take_nil, List.nil_append, Nat.reduceBEq, Nat.reduceMul, Nat.reduceLeDiff, eq_self, and_self, true_and, and_true, decide_true, decide_false, Bool.and_self, Bool.or_self, Bool.and_true, Bool.true_and, Bool.and_false, Bool.false_and, Bool.or_true, Bool.true_or, Bool.or_false, Bool.false_or, Bool.not_true, Bool.not_false, cond_true, cond_false]
      try rfl
  · cases h
theorem ok : EntOk Try.prog ⟨58, R⟩ :=
  ent_okA mixed (A := (orc [])) (orc_ok (by simp)) Try.func58 (by kernel_rfl) (by kernel_rfl) (n := 23) (ts := [5]) (hd := hd0) (dr := Dr.std) (cut := none) (by kernel_rfl) (by kernel_rfl) (by kernel_rfl) run
end cloRise

namespace alConv
def R : List AVal → Option (Bool × AVal × List Blk)
  | [.agg [.int .i64 p, .ro (.ints .i64 ws) m 1], .fn ff [.rom [.int .i64 p2, .ro (.ints .i64 ws2) m2 1] 0]] => some (decide (m = ws.length ∧ ff = 56 ∧ p2 = p ∧ ws2 = ws ∧ m2 = ws.length) && wo.sp p ws, .tup [.bool (fs.al2.sp (co.conv.sp ws) ws.length), .bool true], [])
  | _ => none
def hd : Nat → Head := fun i => bif eqN i 0 then ⟨[1, 2, 4, 5, 13, 14, 998], none⟩ else ⟨[1, 2, 4, 5, 6, 13, 14, 19, 20, 998], none⟩
noncomputable def L0 (f n : Nat) (s : State) := loopAt Try.prog (orc [⟨56, cloConv.R⟩, ⟨62, iValidWorths.R⟩]) hd Dr.std 0 f (bodyOf Try.f55) 0 [true, true, false, true] (retK Try.prog [4, 5] 0 none) n s
noncomputable def L2 (f n n2 : Nat) (s : State) := loopAt Try.prog (orc [⟨56, cloConv.R⟩, ⟨62, iValidWorths.R⟩]) hd Dr.std 0 f (bodyAt (bodyOf Try.f55) [true, true, false, true]) (curAt (bodyOf Try.f55) 0 [true, true, false, true]) [true, true, false, true, true] (iterK (normE 0 (hd (curAt (bodyOf Try.f55) 0 [true, true, false, true]))) (L0 f n) (contAt Try.prog (orc [⟨56, cloConv.R⟩, ⟨62, iValidWorths.R⟩]) hd Dr.std 0 f (bodyOf Try.f55) 0 [true, true, false, true] (retK Try.prog [4, 5] 0 none))) n2 s
theorem start (p : Int) (ws : List Int) (f : Nat) :
  runFn Try.prog (orc [⟨56, cloConv.R⟩, ⟨62, iValidWorths.R⟩]) hd Dr.std none f (bodyOf Try.f55) 30 [4, 5] [.agg [.int .i64 p, .ro (.ints .i64 ws) ws.length 1], .fn 56 [.rom [.int .i64 p, .ro (.ints .i64 ws) ws.length 1] 0]] []
  = (bif true && true && (true && true && true) then bif decide (ws.length = ws.length) && wo.sp p ws && (true && (true && true) && true || true && true) then bif true && true then L0 f f (mkS (30 : Nat) [((1 : Nat), AVal.fn (56 : Nat) [AVal.rom [AVal.int IntKind.i64 p, AVal.ro (Cont.ints IntKind.i64 ws) ws.length (1 : Nat)] (0 : Nat)]), ((2 : Nat), AVal.ptr (0 : Nat) (0 : Nat) (0 : Nat)), ((4 : Nat), AVal.bool false), ((5 : Nat), AVal.bool false), ((13 : Nat), AVal.int IntKind.i64 (↑ws.length : Int)), ((14 : Nat), AVal.int IntKind.i64 (0 : Int))] [{ c := BC.cells [AVal.int IntKind.i64 p, AVal.ro (Cont.ints IntKind.i64 ws) ws.length (1 : Nat)], ver := (0 : Nat) }]) else none else none else none) := by kernel_rfl
theorem round0 (p l a : Int) (ws : List Int) (f n : Nat) :
  L0 f (n + 1) (mkS 30 [(1, .fn 56 [.rom [.int .i64 p, .ro (.ints .i64 ws) ws.length 1] 0]), (2, .ptr 0 0 0), (4, .bool false), (5, .bool false), (13, .int .i64 l), (14, .int .i64 a)] [⟨.cells [.int .i64 p, .ro (.ints .i64 ws) ws.length 1], 0⟩])
  = (bif decide (a < l) then bif true && true then L2 f n f (mkS (30 : Nat) [((1 : Nat), AVal.fn (56 : Nat) [AVal.rom [AVal.int IntKind.i64 p, AVal.ro (Cont.ints IntKind.i64 ws) ws.length (1 : Nat)] (0 : Nat)]), ((2 : Nat), AVal.ptr (0 : Nat) (0 : Nat) (0 : Nat)), ((4 : Nat), AVal.bool false), ((5 : Nat), AVal.bool false), ((6 : Nat), AVal.int IntKind.i64 a), ((13 : Nat), AVal.int IntKind.i64 l), ((14 : Nat), AVal.int IntKind.i64 a), ((19 : Nat), AVal.int IntKind.i64 (↑ws.length : Int)), ((20 : Nat), AVal.int IntKind.i64 (0 : Int))] [{ c := BC.cells [AVal.int IntKind.i64 p, AVal.ro (Cont.ints IntKind.i64 ws) ws.length (1 : Nat)], ver := (0 : Nat) }]) else none else some (AVal.tup [AVal.bool true, AVal.bool true], [{ c := BC.cells [AVal.int IntKind.i64 p, AVal.ro (Cont.ints IntKind.i64 ws) ws.length (1 : Nat)], ver := (0 : Nat) }])) := by kernel_rfl
theorem round2 (p l a k b : Int) (ws : List Int) (f n n2 : Nat) :
  L2 f n (n2 + 1) (mkS 30 [(1, .fn 56 [.rom [.int .i64 p, .ro (.ints .i64 ws) ws.length 1] 0]), (2, .ptr 0 0 0), (4, .bool false), (5, .bool false), (6, .int .i64 a), (13, .int .i64 l), (14, .int .i64 a), (19, .int .i64 k), (20, .int .i64 b)] [⟨.cells [.int .i64 p, .ro (.ints .i64 ws) ws.length 1], 0⟩])
  = (bif decide (b < k) then bif decide (ws.length = ws.length ∧ (0 : Int) ≤ a ∧ a < (↑ws.length : Int) ∧ (0 : Int) ≤ b ∧ b < (↑ws.length : Int)) && wo.sp p ws && (true && (true && (true && (true && true) && true)) || true && true) then bif !co.conv.sp ws a.toNat b.toNat then some (AVal.tup [AVal.bool false, AVal.bool true], [{ c := BC.cells [AVal.int IntKind.i64 p, AVal.ro (Cont.ints IntKind.i64 ws) ws.length (1 : Nat)], ver := (0 : Nat) }]) else L2 f n n2 (mkS (30 : Nat) [((1 : Nat), AVal.fn (56 : Nat) [AVal.rom [AVal.int IntKind.i64 p, AVal.ro (Cont.ints IntKind.i64 ws) ws.length (1 : Nat)] (0 : Nat)]), ((2 : Nat), AVal.ptr (0 : Nat) (0 : Nat) (0 : Nat)), ((4 : Nat), AVal.bool false), ((5 : Nat), AVal.bool false), ((6 : Nat), AVal.int IntKind.i64 a), ((13 : Nat), AVal.int IntKind.i64 l), ((14 : Nat), AVal.int IntKind.i64 a), ((19 : Nat), AVal.int IntKind.i64 k), ((20 : Nat), AVal.int IntKind.i64 (IntKind.i64.wrap (b + (1 : Int))))] [{ c := BC.cells [AVal.int IntKind.i64 p, AVal.ro (Cont.ints IntKind.i64 ws) ws.length (1 : Nat)], ver := (0 : Nat) }]) else none else L0 f n (mkS (30 : Nat) [((1 : Nat), AVal.fn (56 : Nat) [AVal.rom [AVal.int IntKind.i64 p, AVal.ro (Cont.ints IntKind.i64 ws) ws.length (1 : Nat)] (0 : Nat)]), ((2 : Nat), AVal.ptr (0 : Nat) (0 : Nat) (0 : Nat)), ((4 : Nat), AVal.bool false), ((5 : Nat), AVal.bool false), ((13 : Nat), AVal.int IntKind.i64 l), ((14 : Nat), AVal.int IntKind.i64 (IntKind.i64.wrap (a + (1 : Int))))] [{ c := BC.cells [AVal.int IntKind.i64 p, AVal.ro (Cont.ints IntKind.i64 ws) ws.length (1 : Nat)], ver := (0 : Nat) }])) := by kernel_rfl
theorem loop2 (p a : Nat) (ws : List Int) (f n : Nat) (hs : wo.sp (p : Int) ws = true) (ha : a < ws.length) (hl : ws.length ≤ 64) : ∀ (d b n2 : Nat), b + d = ws.length → d < n2 →
    L2 f n n2 (mkS 30 [(1, .fn 56 [.rom [.int .i64 ((p : Nat) : Int), .ro (.ints .i64 ws) ws.length 1] 0]), (2, .ptr 0 0 0), (4, .bool false), (5, .bool false), (6, .int .i64 ((a : Nat) : Int)), (13, .int .i64 ((ws.length : Nat) : Int)), (14, .int .i64 ((a : Nat) : Int)), (19, .int .i64 ((ws.length : Nat) : Int)), (20, .int .i64 ((b : Nat) : Int))] [⟨.cells [.int .i64 ((p : Nat) : Int), .ro (.ints .i64 ws) ws.length 1], 0⟩]) = bif fs.al.sp (co.conv.sp ws a) d b then L0 f n (mkS 30 [(1, .fn 56 [.rom [.int .i64 ((p : Nat) : Int), .ro (.ints .i64 ws) ws.length 1] 0]), (2, .ptr 0 0 0), (4, .bool false), (5, .bool false), (13, .int .i64 ((ws.length : Nat) : Int)), (14, .int .i64 ((a + 1 : Nat) : Int))] [⟨.cells [.int .i64 ((p : Nat) : Int), .ro (.ints .i64 ws) ws.length 1], 0⟩]) else some (.tup [.bool false, .bool true], [⟨.cells [.int .i64 ((p : Nat) : Int), .ro (.ints .i64 ws) ws.length 1], 0⟩]) := by
  intro d
  induction d with
  | zero =>
    intro b n2 hb hn
    obtain ⟨n2, rfl⟩ : ∃ k, n2 = k + 1 := ⟨n2 - 1, by omega⟩
    obtain rfl : b = ws.length := by omega
    rw [round2, fs.al.sp]
    simp -implicitDefEqProofs (disch := omega) only [take_one, set_one, decide_eq_true, decide_eq_false, IntWalk.i64_in, beqT, beqF, bneT, bneF, nat_succ, ← Int.natCast_mul, ← Int.natCast_add, Int.toNat_natCast, Int.zero_mul, Int.zero_add, Int.add_zero, Nat.zero_add, Nat.add_zero, Nat.zero_mul, List.length_singleton, List.length_append, List.length_nil, List.length_cons, List.take_length, List.drop_zero, List.replicate_zero, List.take_nil, List.nil_append, Nat.reduceBEq, Nat.reduceMul, Nat.reduceLeDiff, eq_self, and_self, true_and, and_true, decide_true, decide_false, Bool.and_self, Bool.or_self, Bool.and_true, Bool.true_and, Bool.and_false, Bool.false_and, Bool.or_true, Bool.true_or, Bool.or_false, Bool.false_or, Bool.not_true, Bool.not_false, cond_true, cond_false]
  | succ d ih =>
    intro b n2 hb hn
    obtain ⟨n2, rfl⟩ : ∃ k, n2 = k + 1 := ⟨n2 - 1, by omega⟩
    have g := ih (b + 1) n2 (by omega) (by omega)
    rw [round2, fs.al.sp]
    cases he : co.conv.sp ws a b with
    | false =>
      simp -implicitDefEqProofs (disch := omega) only [hs, he, take_one, set_one, decide_eq_true, decide_eq_false, IntWalk.i64_in, beqT, beqF, bneT, bneF, nat_succ, ← Int.natCast_mul, ← Int.natCast_add, Int.toNat_natCast, Int.zero_mul, Int.zero_add, Int.add_zero, Nat.zero_add, Nat.add_zero, Nat.zero_mul, List.length_singleton, List.length_append, List.length_nil, List.length_cons, List.take_length, List.drop_zero, List.replicate_zero, List.take_nil, List.nil_append, Nat.reduceBEq, Nat.reduceMul, Nat.reduceLeDiff, eq_self, and_self, true_and, and_true, decide_true, decide_false, Bool.and_self, Bool.or_self, Bool.and_true, Bool.true_and, Bool.and_false, Bool.false_and, Bool.or_true, Bool.true_or, Bool.or_false, Bool.false_or, Bool.not_true, Bool.not_false, cond_true, cond_false]
    | true =>
      simp -implicitDefEqProofs (disch := omega) only [hs, he, take_one, set_one, decide_eq_true, decide_eq_false, IntWalk.i64_in, beqT, beqF, bneT, bneF, nat_succ, ← Int.natCast_mul, ← Int.natCast_add, Int.toNat_natCast, Int.zero_mul, Int.zero_add, Int.add_zero, Nat.zero_add, Nat.add_zero, Nat.zero_mul, List.length_singleton, List.length_append, List.length_nil, List.length_cons, List.take_length, List.drop_zero, List.replicate_zero, List.take_nil, List.nil_append, Nat.reduceBEq, Nat.reduceMul, Nat.reduceLeDiff, eq_self, and_self, true_and, and_true, decide_true, decide_false, Bool.and_self, Bool.or_self, Bool.and_true, Bool.true_and, Bool.and_false, Bool.false_and, Bool.or_true, Bool.true_or, Bool.or_false, Bool.false_or, Bool.not_true, Bool.not_false, cond_true, cond_false]
      exact g
theorem loop0 (p : Nat) (ws : List Int) (f : Nat) (hs : wo.sp (p : Int) ws = true) (hl : ws.length ≤ 64) (hf : 64 < f) : ∀ (d a n : Nat), a + d = ws.length → d < n →
    L0 f n (mkS 30 [(1, .fn 56 [.rom [.int .i64 ((p : Nat) : Int), .ro (.ints .i64 ws) ws.length 1] 0]), (2, .ptr 0 0 0), (4, .bool false), (5, .bool false), (13, .int .i64 ((ws.length : Nat) : Int)), (14, .int .i64 ((a : Nat) : Int))] [⟨.cells [.int .i64 ((p : Nat) : Int), .ro (.ints .i64 ws) ws.length 1], 0⟩]) = some (.tup [.bool (fs.al.sp (fun a => fs.al.sp (co.conv.sp ws a) ws.length 0) d a), .bool true], [⟨.cells [.int .i64 ((p : Nat) : Int), .ro (.ints .i64 ws) ws.length 1], 0⟩]) := by
  intro d
  induction d with
  | zero =>
    intro a n ha hn
    obtain ⟨n, rfl⟩ : ∃ k, n = k + 1 := ⟨n - 1, by omega⟩
    obtain rfl : a = ws.length := by omega
    rw [round0, fs.al.sp]
    simp -implicitDefEqProofs (disch := omega) only [take_one, set_one, decide_eq_true, decide_eq_false, IntWalk.i64_in, beqT, beqF, bneT, bneF, nat_succ, ← Int.natCast_mul, ← Int.natCast_add, Int.toNat_natCast, Int.zero_mul, Int.zero_add, Int.add_zero, Nat.zero_add, Nat.add_zero, Nat.zero_mul, List.length_singleton, List.length_append, List.length_nil, List.length_cons, List.take_length, List.drop_zero, List.replicate_zero, List.take_nil, List.nil_append, Nat.reduceBEq, Nat.reduceMul, Nat.reduceLeDiff, eq_self, and_self, true_and, and_true, decide_true, decide_false, Bool.and_self, Bool.or_self, Bool.and_true, Bool.true_and, Bool.and_false, Bool.false_and, Bool.or_true, Bool.true_or, Bool.or_false, Bool.false_or, Bool.not_true, Bool.not_false, cond_true, cond_false]
  | succ d ih =>
    intro a n ha hn
    obtain ⟨n, rfl⟩ : ∃ k, n = k + 1 := ⟨n - 1, by omega⟩
    have g := ih (a + 1) n (by omega) (by omega)
    have g0 := loop2 p a ws f n hs (by omega) hl ws.length 0 f (by omega) (by omega)
    rw [round0, fs.al.sp]
    simp -implicitDefEqProofs (disch := omega) only [take_one, set_one, decide_eq_true, decide_eq_false, IntWalk.i64_in, beqT, beqF, bneT, bneF, nat_succ, ← Int.natCast_mul, ← Int.natCast_add, Int.toNat_natCast, Int.zero_mul, Int.zero_add, Int.add_zero, Nat.zero_add, Nat.add_zero, Nat.zero_mul, List.length_singleton, List.length_append, List.length_nil, List.length_cons, List.take_length, List.drop_zero, List.replicate_zero, List.take_nil, List.nil_append, Nat.reduceBEq, Nat.reduceMul, Nat.reduceLeDiff, eq_self, and_self, true_and, and_true, decide_true, decide_false, Bool.and_self, Bool.or_self, Bool.and_true, Bool.true_and, Bool.and_false, Bool.false_and, Bool.or_true, Bool.true_or, Bool.or_false, Bool.false_or, Bool.not_true, Bool.not_false, cond_true, cond_false]
    refine g0.trans ?_
    cases he : fs.al.sp (co.conv.sp ws a) ws.length 0 with
    | false => rfl
    | true => exact g
theorem run : ∀ args v new, R args = some (true, v, new) → ∃ fuel, regc [] (runFn Try.prog (orc [⟨56, cloConv.R⟩, ⟨62, iValidWorths.R⟩]) hd Dr.std none fuel (bodyOf Try.f55) 30 [4, 5] args []) = some (v, new) := by
  intro args v new h
  unfold R at h
  split at h
  · rename_i p ws m ff p2 ws2 m2
    simp only [Option.some.injEq, Prod.mk.injEq, Bool.and_eq_true, decide_eq_true_eq] at h
    obtain ⟨⟨⟨rfl, rfl, rfl, rfl, rfl⟩, hs⟩, rfl, rfl⟩ := h
    have hs2 := hs
    obtain ⟨p, rfl, hp, hw, h0, v⟩ := wo.valid hs2
    have h64 := wo.pow_le hp.2
    have h1p := wo.pow_pos p
    obtain ⟨F, hF⟩ : ∃ F : Nat, F = 100 := ⟨100, rfl⟩
    refine ⟨F, ?_⟩
    have g := loop0 p ws2 F hs (by omega) (by omega) ws2.length 0 F (by omega) (by omega)
    rw [start]
    simp -implicitDefEqProofs (disch := omega) only [hs, take_one, set_one, decide_eq_true, decide_eq_false, IntWalk.i64_in, beqT, beqF, bneT, bneF, nat_succ, ← Int.natCast_mul, ← Int.natCast_add, Int.toNat_natCast, Int.zero_mul, Int.zero_add, Int.add_zero, Nat.zero_add, Nat.add_zero, Nat.zero_mul, List.length_singleton, List.length_append, List.length_nil, List.length_cons, List.take_length, List.drop_zero, List.replicate_zero, List.take_nil, List.nil_append, Nat.reduceBEq, Nat.reduceMul, Nat.reduceLeDiff, eq_self, and_self, true_and, and_true, decide_true, decide_false, Bool.and_self, Bool.or_self, Bool.and_true, Bool.true_and, Bool.and_false, Bool.false_and, Bool.or_true, Bool.true_or, Bool.or_false, Bool.false_or, Bool.not_true, Bool.not_false, cond_true, cond_false]
    exact congrArg (regc []) g
  · cases h
theorem ok : EntOk Try.prog ⟨55, R⟩ :=
  ent_okAG (ks := []) mixed (A := (orc [⟨56, cloConv.R⟩, ⟨62, iValidWorths.R⟩])) (orc_ok (by simp only [List.mem_cons, List.not_mem_nil, or_false, forall_eq_or_imp, forall_eq]; exact ⟨cloConv.ok, iValidWorths.ok⟩)) Try.func55 (by kernel_rfl) (by kernel_rfl) (n := 30) (ts := [4, 5]) (hd := hd) (dr := Dr.std) (cut := none) (by kernel_rfl) (by kernel_rfl) (by kernel_rfl) run
end alConv

namespace alJoin
def R : List AVal → Option (Bool × AVal × List Blk)
  | [.agg [.int .i64 p, .ro (.ints .i64 ws) m 1], .fn ff [.rom [.int .i64 p2, .ro (.ints .i64 ws2) m2 1] 0]] => some (decide (m = ws.length ∧ ff = 57 ∧ p2 = p ∧ ws2 = ws ∧ m2 = ws.length) && wo.sp p ws, .tup [.bool (fs.al2.sp (co.join.sp ws) ws.length), .bool true], [])
  | _ => none
def hd : Nat → Head := fun i => bif eqN i 0 then ⟨[1, 2, 4, 5, 13, 14, 998], none⟩ else ⟨[1, 2, 4, 5, 6, 13, 14, 19, 20, 998], none⟩
noncomputable def L0 (f n : Nat) (s : State) := loopAt Try.prog (orc [⟨57, cloJoin.R⟩, ⟨62, iValidWorths.R⟩]) hd Dr.std 0 f (bodyOf Try.f55) 0 [true, true, false, true] (retK Try.prog [4, 5] 0 none) n s
noncomputable def L2 (f n n2 : Nat) (s : State) := loopAt Try.prog (orc [⟨57, cloJoin.R⟩, ⟨62, iValidWorths.R⟩]) hd Dr.std 0 f (bodyAt (bodyOf Try.f55) [true, true, false, true]) (curAt (bodyOf Try.f55) 0 [true, true, false, true]) [true, true, false, true, true] (iterK (normE 0 (hd (curAt (bodyOf Try.f55) 0 [true, true, false, true]))) (L0 f n) (contAt Try.prog (orc [⟨57, cloJoin.R⟩, ⟨62, iValidWorths.R⟩]) hd Dr.std 0 f (bodyOf Try.f55) 0 [true, true, false, true] (retK Try.prog [4, 5] 0 none))) n2 s
theorem start (p : Int) (ws : List Int) (f : Nat) :
  runFn Try.prog (orc [⟨57, cloJoin.R⟩, ⟨62, iValidWorths.R⟩]) hd Dr.std none f (bodyOf Try.f55) 30 [4, 5] [.agg [.int .i64 p, .ro (.ints .i64 ws) ws.length 1], .fn 57 [.rom [.int .i64 p, .ro (.ints .i64 ws) ws.length 1] 0]] []
  = (bif true && true && (true && true && true) then bif decide (ws.length = ws.length) && wo.sp p ws && (true && (true && true) && true || true && true) then bif true && true then L0 f f (mkS (30 : Nat) [((1 : Nat), AVal.fn (57 : Nat) [AVal.rom [AVal.int IntKind.i64 p, AVal.ro (Cont.ints IntKind.i64 ws) ws.length (1 : Nat)] (0 : Nat)]), ((2 : Nat), AVal.ptr (0 : Nat) (0 : Nat) (0 : Nat)), ((4 : Nat), AVal.bool false), ((5 : Nat), AVal.bool false), ((13 : Nat), AVal.int IntKind.i64 (↑ws.length : Int)), ((14 : Nat), AVal.int IntKind.i64 (0 : Int))] [{ c := BC.cells [AVal.int IntKind.i64 p, AVal.ro (Cont.ints IntKind.i64 ws) ws.length (1 : Nat)], ver := (0 : Nat) }]) else none else none else none) := by kernel_rfl
theorem round0 (p l a : Int) (ws : List Int) (f n : Nat) :
  L0 f (n + 1) (mkS 30 [(1, .fn 57 [.rom [.int .i64 p, .ro (.ints .i64 ws) ws.length 1] 0]), (2, .ptr 0 0 0), (4, .bool false), (5, .bool false), (13, .int .i64 l), (14, .int .i64 a)] [⟨.cells [.int .i64 p, .ro (.ints .i64 ws) ws.length 1], 0⟩])
  = (bif decide (a < l) then bif true && true then L2 f n f (mkS (30 : Nat) [((1 : Nat), AVal.fn (57 : Nat) [AVal.rom [AVal.int IntKind.i64 p, AVal.ro (Cont.ints IntKind.i64 ws) ws.length (1 : Nat)] (0 : Nat)]), ((2 : Nat), AVal.ptr (0 : Nat) (0 : Nat) (0 : Nat)), ((4 : Nat), AVal.bool false), ((5 : Nat), AVal.bool false), ((6 : Nat), AVal.int IntKind.i64 a), ((13 : Nat), AVal.int IntKind.i64 l), ((14 : Nat), AVal.int IntKind.i64 a), ((19 : Nat), AVal.int IntKind.i64 (↑ws.length : Int)), ((20 : Nat), AVal.int IntKind.i64 (0 : Int))] [{ c := BC.cells [AVal.int IntKind.i64 p, AVal.ro (Cont.ints IntKind.i64 ws) ws.length (1 : Nat)], ver := (0 : Nat) }]) else none else some (AVal.tup [AVal.bool true, AVal.bool true], [{ c := BC.cells [AVal.int IntKind.i64 p, AVal.ro (Cont.ints IntKind.i64 ws) ws.length (1 : Nat)], ver := (0 : Nat) }])) := by kernel_rfl
theorem round2 (p l a k b : Int) (ws : List Int) (f n n2 : Nat) :
  L2 f n (n2 + 1) (mkS 30 [(1, .fn 57 [.rom [.int .i64 p, .ro (.ints .i64 ws) ws.length 1] 0]), (2, .ptr 0 0 0), (4, .bool false), (5, .bool false), (6, .int .i64 a), (13, .int .i64 l), (14, .int .i64 a), (19, .int .i64 k), (20, .int .i64 b)] [⟨.cells [.int .i64 p, .ro (.ints .i64 ws) ws.length 1], 0⟩])
  = (bif decide (b < k) then bif decide (ws.length = ws.length ∧ (0 : Int) ≤ a ∧ a < (↑ws.length : Int) ∧ (0 : Int) ≤ b ∧ b < (↑ws.length : Int)) && wo.sp p ws && (true && (true && (true && (true && true) && true)) || true && true) then bif !co.join.sp ws a.toNat b.toNat then some (AVal.tup [AVal.bool false, AVal.bool true], [{ c := BC.cells [AVal.int IntKind.i64 p, AVal.ro (Cont.ints IntKind.i64 ws) ws.length (1 : Nat)], ver := (0 : Nat) }]) else L2 f n n2 (mkS (30 : Nat) [((1 : Nat), AVal.fn (57 : Nat) [AVal.rom [AVal.int IntKind.i64 p, AVal.ro (Cont.ints IntKind.i64 ws) ws.length (1 : Nat)] (0 : Nat)]), ((2 : Nat), AVal.ptr (0 : Nat) (0 : Nat) (0 : Nat)), ((4 : Nat), AVal.bool false), ((5 : Nat), AVal.bool false), ((6 : Nat), AVal.int IntKind.i64 a), ((13 : Nat), AVal.int IntKind.i64 l), ((14 : Nat), AVal.int IntKind.i64 a), ((19 : Nat), AVal.int IntKind.i64 k), ((20 : Nat), AVal.int IntKind.i64 (IntKind.i64.wrap (b + (1 : Int))))] [{ c := BC.cells [AVal.int IntKind.i64 p, AVal.ro (Cont.ints IntKind.i64 ws) ws.length (1 : Nat)], ver := (0 : Nat) }]) else none else L0 f n (mkS (30 : Nat) [((1 : Nat), AVal.fn (57 : Nat) [AVal.rom [AVal.int IntKind.i64 p, AVal.ro (Cont.ints IntKind.i64 ws) ws.length (1 : Nat)] (0 : Nat)]), ((2 : Nat), AVal.ptr (0 : Nat) (0 : Nat) (0 : Nat)), ((4 : Nat), AVal.bool false), ((5 : Nat), AVal.bool false), ((13 : Nat), AVal.int IntKind.i64 l), ((14 : Nat), AVal.int IntKind.i64 (IntKind.i64.wrap (a + (1 : Int))))] [{ c := BC.cells [AVal.int IntKind.i64 p, AVal.ro (Cont.ints IntKind.i64 ws) ws.length (1 : Nat)], ver := (0 : Nat) }])) := by kernel_rfl
theorem loop2 (p a : Nat) (ws : List Int) (f n : Nat) (hs : wo.sp (p : Int) ws = true) (ha : a < ws.length) (hl : ws.length ≤ 64) : ∀ (d b n2 : Nat), b + d = ws.length → d < n2 →
    L2 f n n2 (mkS 30 [(1, .fn 57 [.rom [.int .i64 ((p : Nat) : Int), .ro (.ints .i64 ws) ws.length 1] 0]), (2, .ptr 0 0 0), (4, .bool false), (5, .bool false), (6, .int .i64 ((a : Nat) : Int)), (13, .int .i64 ((ws.length : Nat) : Int)), (14, .int .i64 ((a : Nat) : Int)), (19, .int .i64 ((ws.length : Nat) : Int)), (20, .int .i64 ((b : Nat) : Int))] [⟨.cells [.int .i64 ((p : Nat) : Int), .ro (.ints .i64 ws) ws.length 1], 0⟩]) = bif fs.al.sp (co.join.sp ws a) d b then L0 f n (mkS 30 [(1, .fn 57 [.rom [.int .i64 ((p : Nat) : Int), .ro (.ints .i64 ws) ws.length 1] 0]), (2, .ptr 0 0 0), (4, .bool false), (5, .bool false), (13, .int .i64 ((ws.length : Nat) : Int)), (14, .int .i64 ((a + 1 : Nat) : Int))] [⟨.cells [.int .i64 ((p : Nat) : Int), .ro (.ints .i64 ws) ws.length 1], 0⟩]) else some (.tup [.bool false, .bool true], [⟨.cells [.int .i64 ((p : Nat) : Int), .ro (.ints .i64 ws) ws.length 1], 0⟩]) := by
  intro d
  induction d with
  | zero =>
    intro b n2 hb hn
    obtain ⟨n2, rfl⟩ : ∃ k, n2 = k + 1 := ⟨n2 - 1, by omega⟩
    obtain rfl : b = ws.length := by omega
    rw [round2, fs.al.sp]
    simp -implicitDefEqProofs (disch := omega) only [take_one, set_one, decide_eq_true, decide_eq_false, IntWalk.i64_in, beqT, beqF, bneT, bneF, nat_succ, ← Int.natCast_mul, ← Int.natCast_add, Int.toNat_natCast, Int.zero_mul, Int.zero_add, Int.add_zero, Nat.zero_add, Nat.add_zero, Nat.zero_mul, List.length_singleton, List.length_append, List.length_nil, List.length_cons, List.take_length, List.drop_zero, List.replicate_zero, List.take_nil, List.nil_append, Nat.reduceBEq, Nat.reduceMul, Nat.reduceLeDiff, eq_self, and_self, true_and, and_true, decide_true, decide_false, Bool.and_self, Bool.or_self, Bool.and_true, Bool.true_and, Bool.and_false, Bool.false_and, Bool.or_true, Bool.true_or, Bool.or_false, Bool.false_or, Bool.not_true, Bool.not_false, cond_true, cond_false]
  | succ d ih =>
    intro b n2 hb hn
    obtain ⟨n2, rfl⟩ : ∃ k, n2 = k + 1 := ⟨n2 - 1, by omega⟩
    have g := ih (b + 1) n2 (by omega) (by omega)
    rw [round2, fs.al.sp]
    cases he : co.join.sp ws a b with
    | false =>
      simp -implicitDefEqProofs (disch := omega) only [hs, he, take_one, set_one, decide_eq_true, decide_eq_false, IntWalk.i64_in, beqT, beqF, bneT, bneF, nat_succ, ← Int.natCast_mul, ← Int.natCast_add, Int.toNat_natCast, Int.zero_mul, Int.zero_add, Int.add_zero, Nat.zero_add, Nat.add_zero, Nat.zero_mul, List.length_singleton, List.length_append, List.length_nil, List.length_cons, List.take_length, List.drop_zero, List.replicate_zero, List.take_nil, List.nil_append, Nat.reduceBEq, Nat.reduceMul, Nat.reduceLeDiff, eq_self, and_self, true_and, and_true, decide_true, decide_false, Bool.and_self, Bool.or_self, Bool.and_true, Bool.true_and, Bool.and_false, Bool.false_and, Bool.or_true, Bool.true_or, Bool.or_false, Bool.false_or, Bool.not_true, Bool.not_false, cond_true, cond_false]
    | true =>
      simp -implicitDefEqProofs (disch := omega) only [hs, he, take_one, set_one, decide_eq_true, decide_eq_false, IntWalk.i64_in, beqT, beqF, bneT, bneF, nat_succ, ← Int.natCast_mul, ← Int.natCast_add, Int.toNat_natCast, Int.zero_mul, Int.zero_add, Int.add_zero, Nat.zero_add, Nat.add_zero, Nat.zero_mul, List.length_singleton, List.length_append, List.length_nil, List.length_cons, List.take_length, List.drop_zero, List.replicate_zero, List.take_nil, List.nil_append, Nat.reduceBEq, Nat.reduceMul, Nat.reduceLeDiff, eq_self, and_self, true_and, and_true, decide_true, decide_false, Bool.and_self, Bool.or_self, Bool.and_true, Bool.true_and, Bool.and_false, Bool.false_and, Bool.or_true, Bool.true_or, Bool.or_false, Bool.false_or, Bool.not_true, Bool.not_false, cond_true, cond_false]
      exact g
theorem loop0 (p : Nat) (ws : List Int) (f : Nat) (hs : wo.sp (p : Int) ws = true) (hl : ws.length ≤ 64) (hf : 64 < f) : ∀ (d a n : Nat), a + d = ws.length → d < n →
    L0 f n (mkS 30 [(1, .fn 57 [.rom [.int .i64 ((p : Nat) : Int), .ro (.ints .i64 ws) ws.length 1] 0]), (2, .ptr 0 0 0), (4, .bool false), (5, .bool false), (13, .int .i64 ((ws.length : Nat) : Int)), (14, .int .i64 ((a : Nat) : Int))] [⟨.cells [.int .i64 ((p : Nat) : Int), .ro (.ints .i64 ws) ws.length 1], 0⟩]) = some (.tup [.bool (fs.al.sp (fun a => fs.al.sp (co.join.sp ws a) ws.length 0) d a), .bool true], [⟨.cells [.int .i64 ((p : Nat) : Int), .ro (.ints .i64 ws) ws.length 1], 0⟩]) := by
  intro d
  induction d with
  | zero =>
    intro a n ha hn
    obtain ⟨n, rfl⟩ : ∃ k, n = k + 1 := ⟨n - 1, by omega⟩
    obtain rfl : a = ws.length := by omega
    rw [round0, fs.al.sp]
    simp -implicitDefEqProofs (disch := omega) only [take_one, set_one, decide_eq_true, decide_eq_false, IntWalk.i64_in, beqT, beqF, bneT, bneF, nat_succ, ← Int.natCast_mul, ← Int.natCast_add, Int.toNat_natCast, Int.zero_mul, Int.zero_add, Int.add_zero, Nat.zero_add, Nat.add_zero, Nat.zero_mul, List.length_singleton, List.length_append, List.length_nil, List.length_cons, List.take_length, List.drop_zero, List.replicate_zero, List.take_nil, List.nil_append, Nat.reduceBEq, Nat.reduceMul, Nat.reduceLeDiff, eq_self, and_self, true_and, and_true, decide_true, decide_false, Bool.and_self, Bool.or_self, Bool.and_true, Bool.true_and, Bool.and_false, Bool.false_and, Bool.or_true, Bool.true_or, Bool.or_false, Bool.false_or, Bool.not_true, Bool.not_false, cond_true, cond_false]
  | succ d ih =>
    intro a n ha hn
    obtain ⟨n, rfl⟩ : ∃ k, n = k + 1 := ⟨n - 1, by omega⟩
    have g := ih (a + 1) n (by omega) (by omega)
    have g0 := loop2 p a ws f n hs (by omega) hl ws.length 0 f (by omega) (by omega)
    rw [round0, fs.al.sp]
    simp -implicitDefEqProofs (disch := omega) only [take_one, set_one, decide_eq_true, decide_eq_false, IntWalk.i64_in, beqT, beqF, bneT, bneF, nat_succ, ← Int.natCast_mul, ← Int.natCast_add, Int.toNat_natCast, Int.zero_mul, Int.zero_add, Int.add_zero, Nat.zero_add, Nat.add_zero, Nat.zero_mul, List.length_singleton, List.length_append, List.length_nil, List.length_cons, List.take_length, List.drop_zero, List.replicate_zero, List.take_nil, List.nil_append, Nat.reduceBEq, Nat.reduceMul, Nat.reduceLeDiff, eq_self, and_self, true_and, and_true, decide_true, decide_false, Bool.and_self, Bool.or_self, Bool.and_true, Bool.true_and, Bool.and_false, Bool.false_and, Bool.or_true, Bool.true_or, Bool.or_false, Bool.false_or, Bool.not_true, Bool.not_false, cond_true, cond_false]
    refine g0.trans ?_
    cases he : fs.al.sp (co.join.sp ws a) ws.length 0 with
    | false => rfl
    | true => exact g
theorem run : ∀ args v new, R args = some (true, v, new) → ∃ fuel, regc [] (runFn Try.prog (orc [⟨57, cloJoin.R⟩, ⟨62, iValidWorths.R⟩]) hd Dr.std none fuel (bodyOf Try.f55) 30 [4, 5] args []) = some (v, new) := by
  intro args v new h
  unfold R at h
  split at h
  · rename_i p ws m ff p2 ws2 m2
    simp only [Option.some.injEq, Prod.mk.injEq, Bool.and_eq_true, decide_eq_true_eq] at h
    obtain ⟨⟨⟨rfl, rfl, rfl, rfl, rfl⟩, hs⟩, rfl, rfl⟩ := h
    have hs2 := hs
    obtain ⟨p, rfl, hp, hw, h0, v⟩ := wo.valid hs2
    have h64 := wo.pow_le hp.2
    have h1p := wo.pow_pos p
    obtain ⟨F, hF⟩ : ∃ F : Nat, F = 100 := ⟨100, rfl⟩
    refine ⟨F, ?_⟩
    have g := loop0 p ws2 F hs (by omega) (by omega) ws2.length 0 F (by omega) (by omega)
    rw [start]
    simp -implicitDefEqProofs (disch := omega) only [hs, take_one, set_one, decide_eq_true, decide_eq_false, IntWalk.i64_in, beqT, beqF, bneT, bneF, nat_succ, ← Int.natCast_mul, ← Int.natCast_add, Int.toNat_natCast, Int.zero_mul, Int.zero_add, Int.add_zero, Nat.zero_add, Nat.add_zero, Nat.zero_mul, List.length_singleton, List.length_append, List.length_nil, List.length_cons, List.take_length, List.drop_zero, List.replicate_zero, List.take_nil, List.nil_append, Nat.reduceBEq, Nat.reduceMul, Nat.reduceLeDiff, eq_self, and_self, true_and, and_true, decide_true, decide_false, Bool.and_self, Bool.or_self, Bool.and_true, Bool.true_and, Bool.and_false, Bool.false_and, Bool.or_true, Bool.true_or, Bool.or_false, Bool.false_or, Bool.not_true, Bool.not_false, cond_true, cond_false]
    exact congrArg (regc []) g
  · cases h
theorem ok : EntOk Try.prog ⟨55, R⟩ :=
  ent_okAG (ks := []) mixed (A := (orc [⟨57, cloJoin.R⟩, ⟨62, iValidWorths.R⟩])) (orc_ok (by simp only [List.mem_cons, List.not_mem_nil, or_false, forall_eq_or_imp, forall_eq]; exact ⟨cloJoin.ok, iValidWorths.ok⟩)) Try.func55 (by kernel_rfl) (by kernel_rfl) (n := 30) (ts := [4, 5]) (hd := hd) (dr := Dr.std) (cut := none) (by kernel_rfl) (by kernel_rfl) (by kernel_rfl) run
end alJoin

namespace alRise
def R : List AVal → Option (Bool × AVal × List Blk)
  | [.agg [.int .i64 p, .ro (.ints .i64 ws) m 1], .fn ff [.rom [.int .i64 p2, .ro (.ints .i64 ws2) m2 1] 0]] => some (decide (m = ws.length ∧ ff = 58 ∧ p2 = p ∧ ws2 = ws ∧ m2 = ws.length) && wo.sp p ws, .tup [.bool (fs.al2.sp (co.rise.sp ws) ws.length), .bool true], [])
  | _ => none
def hd : Nat → Head := fun i => bif eqN i 0 then ⟨[1, 2, 4, 5, 13, 14, 998], none⟩ else ⟨[1, 2, 4, 5, 6, 13, 14, 19, 20, 998], none⟩
noncomputable def L0 (f n : Nat) (s : State) := loopAt Try.prog (orc [⟨58, cloRise.R⟩, ⟨62, iValidWorths.R⟩]) hd Dr.std 0 f (bodyOf Try.f55) 0 [true, true, false, true] (retK Try.prog [4, 5] 0 none) n s
noncomputable def L2 (f n n2 : Nat) (s : State) := loopAt Try.prog (orc [⟨58, cloRise.R⟩, ⟨62, iValidWorths.R⟩]) hd Dr.std 0 f (bodyAt (bodyOf Try.f55) [true, true, false, true]) (curAt (bodyOf Try.f55) 0 [true, true, false, true]) [true, true, false, true, true] (iterK (normE 0 (hd (curAt (bodyOf Try.f55) 0 [true, true, false, true]))) (L0 f n) (contAt Try.prog (orc [⟨58, cloRise.R⟩, ⟨62, iValidWorths.R⟩]) hd Dr.std 0 f (bodyOf Try.f55) 0 [true, true, false, true] (retK Try.prog [4, 5] 0 none))) n2 s
theorem start (p : Int) (ws : List Int) (f : Nat) :
  runFn Try.prog (orc [⟨58, cloRise.R⟩, ⟨62, iValidWorths.R⟩]) hd Dr.std none f (bodyOf Try.f55) 30 [4, 5] [.agg [.int .i64 p, .ro (.ints .i64 ws) ws.length 1], .fn 58 [.rom [.int .i64 p, .ro (.ints .i64 ws) ws.length 1] 0]] []
  = (bif true && true && (true && true && true) then bif decide (ws.length = ws.length) && wo.sp p ws && (true && (true && true) && true || true && true) then bif true && true then L0 f f (mkS (30 : Nat) [((1 : Nat), AVal.fn (58 : Nat) [AVal.rom [AVal.int IntKind.i64 p, AVal.ro (Cont.ints IntKind.i64 ws) ws.length (1 : Nat)] (0 : Nat)]), ((2 : Nat), AVal.ptr (0 : Nat) (0 : Nat) (0 : Nat)), ((4 : Nat), AVal.bool false), ((5 : Nat), AVal.bool false), ((13 : Nat), AVal.int IntKind.i64 (↑ws.length : Int)), ((14 : Nat), AVal.int IntKind.i64 (0 : Int))] [{ c := BC.cells [AVal.int IntKind.i64 p, AVal.ro (Cont.ints IntKind.i64 ws) ws.length (1 : Nat)], ver := (0 : Nat) }]) else none else none else none) := by kernel_rfl
theorem round0 (p l a : Int) (ws : List Int) (f n : Nat) :
  L0 f (n + 1) (mkS 30 [(1, .fn 58 [.rom [.int .i64 p, .ro (.ints .i64 ws) ws.length 1] 0]), (2, .ptr 0 0 0), (4, .bool false), (5, .bool false), (13, .int .i64 l), (14, .int .i64 a)] [⟨.cells [.int .i64 p, .ro (.ints .i64 ws) ws.length 1], 0⟩])
  = (bif decide (a < l) then bif true && true then L2 f n f (mkS (30 : Nat) [((1 : Nat), AVal.fn (58 : Nat) [AVal.rom [AVal.int IntKind.i64 p, AVal.ro (Cont.ints IntKind.i64 ws) ws.length (1 : Nat)] (0 : Nat)]), ((2 : Nat), AVal.ptr (0 : Nat) (0 : Nat) (0 : Nat)), ((4 : Nat), AVal.bool false), ((5 : Nat), AVal.bool false), ((6 : Nat), AVal.int IntKind.i64 a), ((13 : Nat), AVal.int IntKind.i64 l), ((14 : Nat), AVal.int IntKind.i64 a), ((19 : Nat), AVal.int IntKind.i64 (↑ws.length : Int)), ((20 : Nat), AVal.int IntKind.i64 (0 : Int))] [{ c := BC.cells [AVal.int IntKind.i64 p, AVal.ro (Cont.ints IntKind.i64 ws) ws.length (1 : Nat)], ver := (0 : Nat) }]) else none else some (AVal.tup [AVal.bool true, AVal.bool true], [{ c := BC.cells [AVal.int IntKind.i64 p, AVal.ro (Cont.ints IntKind.i64 ws) ws.length (1 : Nat)], ver := (0 : Nat) }])) := by kernel_rfl
theorem round2 (p l a k b : Int) (ws : List Int) (f n n2 : Nat) :
  L2 f n (n2 + 1) (mkS 30 [(1, .fn 58 [.rom [.int .i64 p, .ro (.ints .i64 ws) ws.length 1] 0]), (2, .ptr 0 0 0), (4, .bool false), (5, .bool false), (6, .int .i64 a), (13, .int .i64 l), (14, .int .i64 a), (19, .int .i64 k), (20, .int .i64 b)] [⟨.cells [.int .i64 p, .ro (.ints .i64 ws) ws.length 1], 0⟩])
  = (bif decide (b < k) then bif decide (ws.length = ws.length ∧ (0 : Int) ≤ a ∧ a < (↑ws.length : Int) ∧ (0 : Int) ≤ b ∧ b < (↑ws.length : Int)) && wo.sp p ws && (true && (true && (true && (true && true) && true)) || true && true) then bif !co.rise.sp ws a.toNat b.toNat then some (AVal.tup [AVal.bool false, AVal.bool true], [{ c := BC.cells [AVal.int IntKind.i64 p, AVal.ro (Cont.ints IntKind.i64 ws) ws.length (1 : Nat)], ver := (0 : Nat) }]) else L2 f n n2 (mkS (30 : Nat) [((1 : Nat), AVal.fn (58 : Nat) [AVal.rom [AVal.int IntKind.i64 p, AVal.ro (Cont.ints IntKind.i64 ws) ws.length (1 : Nat)] (0 : Nat)]), ((2 : Nat), AVal.ptr (0 : Nat) (0 : Nat) (0 : Nat)), ((4 : Nat), AVal.bool false), ((5 : Nat), AVal.bool false), ((6 : Nat), AVal.int IntKind.i64 a), ((13 : Nat), AVal.int IntKind.i64 l), ((14 : Nat), AVal.int IntKind.i64 a), ((19 : Nat), AVal.int IntKind.i64 k), ((20 : Nat), AVal.int IntKind.i64 (IntKind.i64.wrap (b + (1 : Int))))] [{ c := BC.cells [AVal.int IntKind.i64 p, AVal.ro (Cont.ints IntKind.i64 ws) ws.length (1 : Nat)], ver := (0 : Nat) }]) else none else L0 f n (mkS (30 : Nat) [((1 : Nat), AVal.fn (58 : Nat) [AVal.rom [AVal.int IntKind.i64 p, AVal.ro (Cont.ints IntKind.i64 ws) ws.length (1 : Nat)] (0 : Nat)]), ((2 : Nat), AVal.ptr (0 : Nat) (0 : Nat) (0 : Nat)), ((4 : Nat), AVal.bool false), ((5 : Nat), AVal.bool false), ((13 : Nat), AVal.int IntKind.i64 l), ((14 : Nat), AVal.int IntKind.i64 (IntKind.i64.wrap (a + (1 : Int))))] [{ c := BC.cells [AVal.int IntKind.i64 p, AVal.ro (Cont.ints IntKind.i64 ws) ws.length (1 : Nat)], ver := (0 : Nat) }])) := by kernel_rfl
theorem loop2 (p a : Nat) (ws : List Int) (f n : Nat) (hs : wo.sp (p : Int) ws = true) (ha : a < ws.length) (hl : ws.length ≤ 64) : ∀ (d b n2 : Nat), b + d = ws.length → d < n2 →
    L2 f n n2 (mkS 30 [(1, .fn 58 [.rom [.int .i64 ((p : Nat) : Int), .ro (.ints .i64 ws) ws.length 1] 0]), (2, .ptr 0 0 0), (4, .bool false), (5, .bool false), (6, .int .i64 ((a : Nat) : Int)), (13, .int .i64 ((ws.length : Nat) : Int)), (14, .int .i64 ((a : Nat) : Int)), (19, .int .i64 ((ws.length : Nat) : Int)), (20, .int .i64 ((b : Nat) : Int))] [⟨.cells [.int .i64 ((p : Nat) : Int), .ro (.ints .i64 ws) ws.length 1], 0⟩]) = bif fs.al.sp (co.rise.sp ws a) d b then L0 f n (mkS 30 [(1, .fn 58 [.rom [.int .i64 ((p : Nat) : Int), .ro (.ints .i64 ws) ws.length 1] 0]), (2, .ptr 0 0 0), (4, .bool false), (5, .bool false), (13, .int .i64 ((ws.length : Nat) : Int)), (14, .int .i64 ((a + 1 : Nat) : Int))] [⟨.cells [.int .i64 ((p : Nat) : Int), .ro (.ints .i64 ws) ws.length 1], 0⟩]) else some (.tup [.bool false, .bool true], [⟨.cells [.int .i64 ((p : Nat) : Int), .ro (.ints .i64 ws) ws.length 1], 0⟩]) := by
  intro d
  induction d with
  | zero =>
    intro b n2 hb hn
    obtain ⟨n2, rfl⟩ : ∃ k, n2 = k + 1 := ⟨n2 - 1, by omega⟩
    obtain rfl : b = ws.length := by omega
    rw [round2, fs.al.sp]
    simp -implicitDefEqProofs (disch := omega) only [take_one, set_one, decide_eq_true, decide_eq_false, IntWalk.i64_in, beqT, beqF, bneT, bneF, nat_succ, ← Int.natCast_mul, ← Int.natCast_add, Int.toNat_natCast, Int.zero_mul, Int.zero_add, Int.add_zero, Nat.zero_add, Nat.add_zero, Nat.zero_mul, List.length_singleton, List.length_append, List.length_nil, List.length_cons, List.take_length, List.drop_zero, List.replicate_zero, List.take_nil, List.nil_append, Nat.reduceBEq, Nat.reduceMul, Nat.reduceLeDiff, eq_self, and_self, true_and, and_true, decide_true, decide_false, Bool.and_self, Bool.or_self, Bool.and_true, Bool.true_and, Bool.and_false, Bool.false_and, Bool.or_true, Bool.true_or, Bool.or_false, Bool.false_or, Bool.not_true, Bool.not_false, cond_true, cond_false]
  | succ d ih =>
    intro b n2 hb hn
    obtain ⟨n2, rfl⟩ : ∃ k, n2 = k + 1 := ⟨n2 - 1, by omega⟩
    have g := ih (b + 1) n2 (by omega) (by omega)
    rw [round2, fs.al.sp]
    cases he : co.rise.sp ws a b with
    | false =>
      simp -implicitDefEqProofs (disch := omega) only [hs, he, take_one, set_one, decide_eq_true, decide_eq_false, IntWalk.i64_in, beqT, beqF, bneT, bneF, nat_succ, ← Int.natCast_mul, ← Int.natCast_add, Int.toNat_natCast, Int.zero_mul, Int.zero_add, Int.add_zero, Nat.zero_add, Nat.add_zero, Nat.zero_mul, List.length_singleton, List.length_append, List.length_nil, List.length_cons, List.take_length, List.drop_zero, List.replicate_zero, List.take_nil, List.nil_append, Nat.reduceBEq, Nat.reduceMul, Nat.reduceLeDiff, eq_self, and_self, true_and, and_true, decide_true, decide_false, Bool.and_self, Bool.or_self, Bool.and_true, Bool.true_and, Bool.and_false, Bool.false_and, Bool.or_true, Bool.true_or, Bool.or_false, Bool.false_or, Bool.not_true, Bool.not_false, cond_true, cond_false]
    | true =>
      simp -implicitDefEqProofs (disch := omega) only [hs, he, take_one, set_one, decide_eq_true, decide_eq_false, IntWalk.i64_in, beqT, beqF, bneT, bneF, nat_succ, ← Int.natCast_mul, ← Int.natCast_add, Int.toNat_natCast, Int.zero_mul, Int.zero_add, Int.add_zero, Nat.zero_add, Nat.add_zero, Nat.zero_mul, List.length_singleton, List.length_append, List.length_nil, List.length_cons, List.take_length, List.drop_zero, List.replicate_zero, List.take_nil, List.nil_append, Nat.reduceBEq, Nat.reduceMul, Nat.reduceLeDiff, eq_self, and_self, true_and, and_true, decide_true, decide_false, Bool.and_self, Bool.or_self, Bool.and_true, Bool.true_and, Bool.and_false, Bool.false_and, Bool.or_true, Bool.true_or, Bool.or_false, Bool.false_or, Bool.not_true, Bool.not_false, cond_true, cond_false]
      exact g
theorem loop0 (p : Nat) (ws : List Int) (f : Nat) (hs : wo.sp (p : Int) ws = true) (hl : ws.length ≤ 64) (hf : 64 < f) : ∀ (d a n : Nat), a + d = ws.length → d < n →
    L0 f n (mkS 30 [(1, .fn 58 [.rom [.int .i64 ((p : Nat) : Int), .ro (.ints .i64 ws) ws.length 1] 0]), (2, .ptr 0 0 0), (4, .bool false), (5, .bool false), (13, .int .i64 ((ws.length : Nat) : Int)), (14, .int .i64 ((a : Nat) : Int))] [⟨.cells [.int .i64 ((p : Nat) : Int), .ro (.ints .i64 ws) ws.length 1], 0⟩]) = some (.tup [.bool (fs.al.sp (fun a => fs.al.sp (co.rise.sp ws a) ws.length 0) d a), .bool true], [⟨.cells [.int .i64 ((p : Nat) : Int), .ro (.ints .i64 ws) ws.length 1], 0⟩]) := by
  intro d
  induction d with
  | zero =>
    intro a n ha hn
    obtain ⟨n, rfl⟩ : ∃ k, n = k + 1 := ⟨n - 1, by omega⟩
    obtain rfl : a = ws.length := by omega
    rw [round0, fs.al.sp]
    simp -implicitDefEqProofs (disch := omega) only [take_one, set_one, decide_eq_true, decide_eq_false, IntWalk.i64_in, beqT, beqF, bneT, bneF, nat_succ, ← Int.natCast_mul, ← Int.natCast_add, Int.toNat_natCast, Int.zero_mul, Int.zero_add, Int.add_zero, Nat.zero_add, Nat.add_zero, Nat.zero_mul, List.length_singleton, List.length_append, List.length_nil, List.length_cons, List.take_length, List.drop_zero, List.replicate_zero, List.take_nil, List.nil_append, Nat.reduceBEq, Nat.reduceMul, Nat.reduceLeDiff, eq_self, and_self, true_and, and_true, decide_true, decide_false, Bool.and_self, Bool.or_self, Bool.and_true, Bool.true_and, Bool.and_false, Bool.false_and, Bool.or_true, Bool.true_or, Bool.or_false, Bool.false_or, Bool.not_true, Bool.not_false, cond_true, cond_false]
  | succ d ih =>
    intro a n ha hn
    obtain ⟨n, rfl⟩ : ∃ k, n = k + 1 := ⟨n - 1, by omega⟩
    have g := ih (a + 1) n (by omega) (by omega)
    have g0 := loop2 p a ws f n hs (by omega) hl ws.length 0 f (by omega) (by omega)
    rw [round0, fs.al.sp]
    simp -implicitDefEqProofs (disch := omega) only [take_one, set_one, decide_eq_true, decide_eq_false, IntWalk.i64_in, beqT, beqF, bneT, bneF, nat_succ, ← Int.natCast_mul, ← Int.natCast_add, Int.toNat_natCast, Int.zero_mul, Int.zero_add, Int.add_zero, Nat.zero_add, Nat.add_zero, Nat.zero_mul, List.length_singleton, List.length_append, List.length_nil, List.length_cons, List.take_length, List.drop_zero, List.replicate_zero, List.take_nil, List.nil_append, Nat.reduceBEq, Nat.reduceMul, Nat.reduceLeDiff, eq_self, and_self, true_and, and_true, decide_true, decide_false, Bool.and_self, Bool.or_self, Bool.and_true, Bool.true_and, Bool.and_false, Bool.false_and, Bool.or_true, Bool.true_or, Bool.or_false, Bool.false_or, Bool.not_true, Bool.not_false, cond_true, cond_false]
    refine g0.trans ?_
    cases he : fs.al.sp (co.rise.sp ws a) ws.length 0 with
    | false => rfl
    | true => exact g
theorem run : ∀ args v new, R args = some (true, v, new) → ∃ fuel, regc [] (runFn Try.prog (orc [⟨58, cloRise.R⟩, ⟨62, iValidWorths.R⟩]) hd Dr.std none fuel (bodyOf Try.f55) 30 [4, 5] args []) = some (v, new) := by
  intro args v new h
  unfold R at h
  split at h
  · rename_i p ws m ff p2 ws2 m2
    simp only [Option.some.injEq, Prod.mk.injEq, Bool.and_eq_true, decide_eq_true_eq] at h
    obtain ⟨⟨⟨rfl, rfl, rfl, rfl, rfl⟩, hs⟩, rfl, rfl⟩ := h
    have hs2 := hs
    obtain ⟨p, rfl, hp, hw, h0, v⟩ := wo.valid hs2
    have h64 := wo.pow_le hp.2
    have h1p := wo.pow_pos p
    obtain ⟨F, hF⟩ : ∃ F : Nat, F = 100 := ⟨100, rfl⟩
    refine ⟨F, ?_⟩
    have g := loop0 p ws2 F hs (by omega) (by omega) ws2.length 0 F (by omega) (by omega)
    rw [start]
    simp -implicitDefEqProofs (disch := omega) only [hs, take_one, set_one, decide_eq_true, decide_eq_false, IntWalk.i64_in, beqT, beqF, bneT, bneF, nat_succ, ← Int.natCast_mul, ← Int.natCast_add, Int.toNat_natCast, Int.zero_mul, Int.zero_add, Int.add_zero, Nat.zero_add, Nat.add_zero, Nat.zero_mul, List.length_singleton, List.length_append, List.length_nil, List.length_cons, List.take_length, List.drop_zero, List.replicate_zero, List.take_nil, List.nil_append, Nat.reduceBEq, Nat.reduceMul, Nat.reduceLeDiff, eq_self, and_self, true_and, and_true, decide_true, decide_false, Bool.and_self, Bool.or_self, Bool.and_true, Bool.true_and, Bool.and_false, Bool.false_and, Bool.or_true, Bool.true_or, Bool.or_false, Bool.false_or, Bool.not_true, Bool.not_false, cond_true, cond_false]
    exact congrArg (regc []) g
  · cases h
theorem ok : EntOk Try.prog ⟨55, R⟩ :=
  ent_okAG (ks := []) mixed (A := (orc [⟨58, cloRise.R⟩, ⟨62, iValidWorths.R⟩])) (orc_ok (by simp only [List.mem_cons, List.not_mem_nil, or_false, forall_eq_or_imp, forall_eq]; exact ⟨cloRise.ok, iValidWorths.ok⟩)) Try.func55 (by kernel_rfl) (by kernel_rfl) (n := 30) (ts := [4, 5]) (hd := hd) (dr := Dr.std) (cut := none) (by kernel_rfl) (by kernel_rfl) (by kernel_rfl) run
end alRise

namespace iIsConvex
def R : List AVal → Option (Bool × AVal × List Blk)
  | [.agg [.int .i64 p, .ro (.ints .i64 ws) m 1]] => some (decide (m = ws.length) && wo.sp p ws, .tup [.bool (fs.al2.sp (co.conv.sp ws) ws.length), .bool true], [])
  | _ => none
theorem go (p : Int) (ws : List Int) :
  runFn Try.prog (orc [⟨55, alConv.R⟩]) hd0 Dr.std none 0 (bodyOf Try.f10) 9 [2, 3] [.agg [.int .i64 p, .ro (.ints .i64 ws) ws.length 1]] []
  = (bif true && true && (true && true && true) then bif decide (ws.length = ws.length ∧ (56 : Nat) = (56 : FuncId) ∧ p = p ∧ ws = ws ∧ ws.length = ws.length) && wo.sp p ws && (true && (true && true) && false || true && true && true) then some (AVal.tup [AVal.bool (fs.al2.sp (co.conv.sp ws) ws.length), AVal.bool true], [{ c := BC.cells [AVal.int IntKind.i64 p, AVal.ro (Cont.ints IntKind.i64 ws) ws.length (1 : Nat)], ver := (0 : Nat) }]) else none else none) := by kernel_rfl
theorem run : ∀ args v new, R args = some (true, v, new) → ∃ fuel, regc [] (runFn Try.prog (orc [⟨55, alConv.R⟩]) hd0 Dr.std none fuel (bodyOf Try.f10) 9 [2, 3] args []) = some (v, new) := by
  intro args v new h
  unfold R at h
  split at h
  · rename_i p ws m
    simp only [Option.some.injEq, Prod.mk.injEq, Bool.and_eq_true, decide_eq_true_eq] at h
    obtain ⟨⟨rfl, hs⟩, rfl, rfl⟩ := h
    have hs2 := hs
    obtain ⟨p, rfl, hp, hw, h0, v⟩ := wo.valid hs2
    have h64 := wo.pow_le hp.2
    have h1p := wo.pow_pos p
    refine ⟨0, ?_⟩
    rw [go]
    simp -implicitDefEqProofs (disch := omega) only [hs, eq_self, take_one, set_one, decide_eq_true, decide_eq_false, IntWalk.i64_in, beqT, beqF, bneT, bneF, nat_succ, ← Int.natCast_mul, ← Int.natCast_add, Int.toNat_natCast, Int.zero_mul, Int.zero_add, Int.add_zero, Nat.zero_add, Nat.add_zero, Nat.zero_mul, List.length_singleton, List.length_append, List.length_nil, List.length_cons, List.take_length, List.drop_zero, List.replicate_zero, List.take_nil, List.nil_append, Nat.reduceBEq, Nat.reduceMul, Nat.reduceLeDiff, eq_self, and_self, true_and, and_true, decide_true, decide_false, Bool.and_self, Bool.or_self, Bool.and_true, Bool.true_and, Bool.and_false, Bool.false_and, Bool.or_true, Bool.true_or, Bool.or_false, Bool.false_or, Bool.not_true, Bool.not_false, cond_true, cond_false]
    rfl
  · cases h
theorem ok : EntOk Try.prog ⟨10, R⟩ :=
  ent_okAG (ks := []) mixed (A := (orc [⟨55, alConv.R⟩])) (orc_ok (by simp only [List.mem_cons, List.not_mem_nil, or_false, forall_eq_or_imp, forall_eq]; exact alConv.ok)) Try.func10 (by kernel_rfl) (by kernel_rfl) (n := 9) (ts := [2, 3]) (hd := hd0) (dr := Dr.std) (cut := none) (by kernel_rfl) (by kernel_rfl) (by kernel_rfl) run
end iIsConvex

namespace iIsJoining
def R : List AVal → Option (Bool × AVal × List Blk)
  | [.agg [.int .i64 p, .ro (.ints .i64 ws) m 1]] => some (decide (m = ws.length) && wo.sp p ws, .tup [.bool (fs.al2.sp (co.join.sp ws) ws.length), .bool true], [])
  | _ => none
theorem go (p : Int) (ws : List Int) :
  runFn Try.prog (orc [⟨55, alJoin.R⟩]) hd0 Dr.std none 0 (bodyOf Try.f11) 9 [2, 3] [.agg [.int .i64 p, .ro (.ints .i64 ws) ws.length 1]] []
  = (bif true && true && (true && true && true) then bif decide (ws.length = ws.length ∧ (57 : Nat) = (57 : FuncId) ∧ p = p ∧ ws = ws ∧ ws.length = ws.length) && wo.sp p ws && (true && (true && true) && false || true && true && true) then some (AVal.tup [AVal.bool (fs.al2.sp (co.join.sp ws) ws.length), AVal.bool true], [{ c := BC.cells [AVal.int IntKind.i64 p, AVal.ro (Cont.ints IntKind.i64 ws) ws.length (1 : Nat)], ver := (0 : Nat) }]) else none else none) := by kernel_rfl
theorem run : ∀ args v new, R args = some (true, v, new) → ∃ fuel, regc [] (runFn Try.prog (orc [⟨55, alJoin.R⟩]) hd0 Dr.std none fuel (bodyOf Try.f11) 9 [2, 3] args []) = some (v, new) := by
  intro args v new h
  unfold R at h
  split at h
  · rename_i p ws m
    simp only [Option.some.injEq, Prod.mk.injEq, Bool.and_eq_true, decide_eq_true_eq] at h
    obtain ⟨⟨rfl, hs⟩, rfl, rfl⟩ := h
    have hs2 := hs
    obtain ⟨p, rfl, hp, hw, h0, v⟩ := wo.valid hs2
    have h64 := wo.pow_le hp.2
    have h1p := wo.pow_pos p
    refine ⟨0, ?_⟩
    rw [go]
    simp -implicitDefEqProofs (disch := omega) only [hs, eq_self, take_one, set_one, decide_eq_true, decide_eq_false, IntWalk.i64_in, beqT, beqF, bneT, bneF, nat_succ, ← Int.natCast_mul, ← Int.natCast_add, Int.toNat_natCast, Int.zero_mul, Int.zero_add, Int.add_zero, Nat.zero_add, Nat.add_zero, Nat.zero_mul, List.length_singleton, List.length_append, List.length_nil, List.length_cons, List.take_length, List.drop_zero, List.replicate_zero, List.take_nil, List.nil_append, Nat.reduceBEq, Nat.reduceMul, Nat.reduceLeDiff, eq_self, and_self, true_and, and_true, decide_true, decide_false, Bool.and_self, Bool.or_self, Bool.and_true, Bool.true_and, Bool.and_false, Bool.false_and, Bool.or_true, Bool.true_or, Bool.or_false, Bool.false_or, Bool.not_true, Bool.not_false, cond_true, cond_false]
    rfl
  · cases h
theorem ok : EntOk Try.prog ⟨11, R⟩ :=
  ent_okAG (ks := []) mixed (A := (orc [⟨55, alJoin.R⟩])) (orc_ok (by simp only [List.mem_cons, List.not_mem_nil, or_false, forall_eq_or_imp, forall_eq]; exact alJoin.ok)) Try.func11 (by kernel_rfl) (by kernel_rfl) (n := 9) (ts := [2, 3]) (hd := hd0) (dr := Dr.std) (cut := none) (by kernel_rfl) (by kernel_rfl) (by kernel_rfl) run
end iIsJoining

namespace iIsRising
def R : List AVal → Option (Bool × AVal × List Blk)
  | [.agg [.int .i64 p, .ro (.ints .i64 ws) m 1]] => some (decide (m = ws.length) && wo.sp p ws, .tup [.bool (fs.al2.sp (co.rise.sp ws) ws.length), .bool true], [])
  | _ => none
theorem go (p : Int) (ws : List Int) :
  runFn Try.prog (orc [⟨55, alRise.R⟩]) hd0 Dr.std none 0 (bodyOf Try.f12) 9 [2, 3] [.agg [.int .i64 p, .ro (.ints .i64 ws) ws.length 1]] []
  = (bif true && true && (true && true && true) then bif decide (ws.length = ws.length ∧ (58 : Nat) = (58 : FuncId) ∧ p = p ∧ ws = ws ∧ ws.length = ws.length) && wo.sp p ws && (true && (true && true) && false || true && true && true) then some (AVal.tup [AVal.bool (fs.al2.sp (co.rise.sp ws) ws.length), AVal.bool true], [{ c := BC.cells [AVal.int IntKind.i64 p, AVal.ro (Cont.ints IntKind.i64 ws) ws.length (1 : Nat)], ver := (0 : Nat) }]) else none else none) := by kernel_rfl
theorem run : ∀ args v new, R args = some (true, v, new) → ∃ fuel, regc [] (runFn Try.prog (orc [⟨55, alRise.R⟩]) hd0 Dr.std none fuel (bodyOf Try.f12) 9 [2, 3] args []) = some (v, new) := by
  intro args v new h
  unfold R at h
  split at h
  · rename_i p ws m
    simp only [Option.some.injEq, Prod.mk.injEq, Bool.and_eq_true, decide_eq_true_eq] at h
    obtain ⟨⟨rfl, hs⟩, rfl, rfl⟩ := h
    have hs2 := hs
    obtain ⟨p, rfl, hp, hw, h0, v⟩ := wo.valid hs2
    have h64 := wo.pow_le hp.2
    have h1p := wo.pow_pos p
    refine ⟨0, ?_⟩
    rw [go]
    simp -implicitDefEqProofs (disch := omega) only [hs, eq_self, take_one, set_one, decide_eq_true, decide_eq_false, IntWalk.i64_in, beqT, beqF, bneT, bneF, nat_succ, ← Int.natCast_mul, ← Int.natCast_add, Int.toNat_natCast, Int.zero_mul, Int.zero_add, Int.add_zero, Nat.zero_add, Nat.add_zero, Nat.zero_mul, List.length_singleton, List.length_append, List.length_nil, List.length_cons, List.take_length, List.drop_zero, List.replicate_zero, List.take_nil, List.nil_append, Nat.reduceBEq, Nat.reduceMul, Nat.reduceLeDiff, eq_self, and_self, true_and, and_true, decide_true, decide_false, Bool.and_self, Bool.or_self, Bool.and_true, Bool.true_and, Bool.and_false, Bool.false_and, Bool.or_true, Bool.true_or, Bool.or_false, Bool.false_or, Bool.not_true, Bool.not_false, cond_true, cond_false]
    rfl
  · cases h
theorem ok : EntOk Try.prog ⟨12, R⟩ :=
  ent_okAG (ks := []) mixed (A := (orc [⟨55, alRise.R⟩])) (orc_ok (by simp only [List.mem_cons, List.not_mem_nil, or_false, forall_eq_or_imp, forall_eq]; exact alRise.ok)) Try.func12 (by kernel_rfl) (by kernel_rfl) (n := 9) (ts := [2, 3]) (hd := hd0) (dr := Dr.std) (cut := none) (by kernel_rfl) (by kernel_rfl) (by kernel_rfl) run
end iIsRising


namespace co
theorem cm_step (ws xs : List Int) (b : Int) (S i : Nat) : cm.sv ws xs b S (i + 1) = bif wo.off.sp S i then cm.sv ws xs b S i else cm.sv ws xs b S i - gz xs i := by
  rw [cm.sv, cm.sv, vo.wg.sv]
  cases wo.off.sp S i
  · rw [cond_false, cond_false]; omega
  · rw [cond_true, cond_true]
theorem cm_start (ws xs : List Int) (b : Int) (S : Nat) : cm.sv ws xs b S 0 = gz ws S * b := by
  rw [cm.sv, vo.wg.sv]; omega
theorem gz_rng {xs : List Int} {A : Int} (hA : 0 ≤ A) (hx : ∀ x ∈ xs, -A ≤ x ∧ x ≤ A) (i : Nat) : -A ≤ gz xs i ∧ gz xs i ≤ A := by
  by_cases c : i < xs.length
  · exact hx _ (gz_mem c)
  · rw [gz_out (by omega)]; omega
theorem cm_big {ws xs : List Int} {b : Int} {S : Nat} (v : ∀ x ∈ ws, -10000 ≤ x ∧ x ≤ 10000) (hx : ∀ x ∈ xs, -1000000 ≤ x ∧ x ≤ 1000000) (h1 : 1 ≤ b) (h2 : b ≤ 1000) : ∀ i : Nat, i ≤ 6 → -20000000 ≤ cm.sv ws xs b S i ∧ cm.sv ws xs b S i ≤ 20000000 := by
  have h3 := wo.mul_in (a := b) (b := gz ws S) (A := 1000) (B := 10000) (by omega) h2 (wo.gz_in v S).1 (wo.gz_in v S).2 (by omega)
  have e : gz ws S * b = b * gz ws S := Int.mul_comm _ _
  have key : ∀ i : Nat, -(1000000 * (i : Int)) ≤ vo.wg.sv xs S i ∧ vo.wg.sv xs S i ≤ 1000000 * (i : Int) := by
    intro i
    induction i with
    | zero => simp [vo.wg.sv]
    | succ i ih =>
      have := gz_rng (by decide : (0 : Int) ≤ 1000000) hx i
      rw [vo.wg.sv]
      cases wo.off.sp S i
      · rw [cond_false]; omega
      · rw [cond_true]; omega
  intro i hi
  have := key i
  rw [cm.sv, e]; omega
end co

namespace cmp
def R : List AVal → Option (Bool × AVal × List Blk)
  | [.agg [.int .i64 p, .ro (.ints .i64 ws) m 1], .ro (.ints .i64 xs) mx 1, .int .i64 b, .int .i64 s] => some (decide (m = ws.length ∧ mx = xs.length ∧ (mx : Int) = p ∧ 1 ≤ b ∧ b ≤ 1000 ∧ 0 ≤ s ∧ s < ws.length) && (wo.sp p ws && (xs.all fun x => decide (-1000000 ≤ x) && decide (x ≤ 1000000))), .int .i64 (co.cm.sv ws xs b s.toNat xs.length), [])
  | _ => none
def hd : Nat → Head := fun _ => ⟨[3, 9, 19, 20, 21, 998], none⟩
noncomputable def L (f n : Nat) (s : State) := loopAt Try.prog (orc []) hd Dr.std 0 f (bodyOf Try.f115) 0 [true, true, false, true] (retK Try.prog [8] 0 none) n s
theorem start (p b s : Int) (ws xs : List Int) (f : Nat) :
  runFn Try.prog (orc []) hd Dr.std none f (bodyOf Try.f115) 36 [8] [.agg [.int .i64 p, .ro (.ints .i64 ws) ws.length 1], .ro (.ints .i64 xs) xs.length 1, .int .i64 b, .int .i64 s] []
  = (bif true && true then bif true && (decide ((0 : Int) ≤ s) && decide (s < (↑ws.length : Int))) then bif decide (s.toNat < ws.length) then L f f (mkS (36 : Nat) [((3 : Nat), AVal.int IntKind.i64 s), ((9 : Nat), AVal.int IntKind.i64 (IntKind.i64.wrap (gz ws s.toNat * b))), ((19 : Nat), AVal.ro (Cont.ints IntKind.i64 xs) xs.length (1 : Nat)), ((20 : Nat), AVal.int IntKind.i64 (↑xs.length : Int)), ((21 : Nat), AVal.int IntKind.i64 (0 : Int))] []) else none else none else none) := by kernel_rfl
theorem round (xs : List Int) (s o l k : Int) (f n : Nat) :
  L f (n + 1) (mkS 36 [(3, .int .i64 s), (9, .int .i64 o), (19, .ro (.ints .i64 xs) xs.length 1), (20, .int .i64 l), (21, .int .i64 k)] [])
  = (bif decide (k < l) then bif true && (decide ((0 : Int) ≤ k) && decide (k < (↑xs.length : Int))) then bif decide (k.toNat < xs.length) then bif decide ((0 : Int) ≤ k) then bif iand.sv IntKind.i64 (ishr.sv IntKind.i64 s k) (1 : Int) == (1 : Int) then L f n (mkS (36 : Nat) [((3 : Nat), AVal.int IntKind.i64 s), ((9 : Nat), AVal.int IntKind.i64 (IntKind.i64.wrap (o - gz xs k.toNat))), ((19 : Nat), AVal.ro (Cont.ints IntKind.i64 xs) xs.length (1 : Nat)), ((20 : Nat), AVal.int IntKind.i64 l), ((21 : Nat), AVal.int IntKind.i64 (IntKind.i64.wrap (k + (1 : Int))))] []) else L f n (mkS (36 : Nat) [((3 : Nat), AVal.int IntKind.i64 s), ((9 : Nat), AVal.int IntKind.i64 o), ((19 : Nat), AVal.ro (Cont.ints IntKind.i64 xs) xs.length (1 : Nat)), ((20 : Nat), AVal.int IntKind.i64 l), ((21 : Nat), AVal.int IntKind.i64 (IntKind.i64.wrap (k + (1 : Int))))] []) else none else none else none else some (AVal.int IntKind.i64 o, [])) := by kernel_rfl
theorem loop (ws xs : List Int) (b : Int) (s f : Nat) (hl : xs.length ≤ 6) (hs : s < 64) (v : ∀ x ∈ ws, -10000 ≤ x ∧ x ≤ 10000) (hx : ∀ x ∈ xs, -1000000 ≤ x ∧ x ≤ 1000000) (h1 : 1 ≤ b) (h2 : b ≤ 1000) : ∀ (d k n : Nat), k + d = xs.length → d < n →
    L f n (mkS 36 [(3, .int .i64 ((s : Nat) : Int)), (9, .int .i64 (co.cm.sv ws xs b s k)), (19, .ro (.ints .i64 xs) xs.length 1), (20, .int .i64 ((xs.length : Nat) : Int)), (21, .int .i64 ((k : Nat) : Int))] []) = some (.int .i64 (co.cm.sv ws xs b s xs.length), []) := by
  intro d
  induction d with
  | zero =>
    intro k n hk hn
    obtain ⟨n, rfl⟩ : ∃ k, n = k + 1 := ⟨n - 1, by omega⟩
    obtain rfl : k = xs.length := by omega
    rw [round]
    simp -implicitDefEqProofs (disch := omega) only [take_one, set_one, decide_eq_true, decide_eq_false, IntWalk.i64_in, beqT, beqF, bneT, bneF, nat_succ, ← Int.natCast_mul, ← Int.natCast_add, Int.toNat_natCast, Int.zero_mul, Int.zero_add, Int.add_zero, Nat.zero_add, Nat.add_zero, Nat.zero_mul, List.length_singleton, List.length_append, List.length_nil, List.length_cons, List.take_length, List.drop_zero, List.replicate_zero, List.take_nil, List.nil_append, Nat.reduceBEq, Nat.reduceMul, Nat.reduceLeDiff, eq_self, and_self, true_and, and_true, decide_true, decide_false, Bool.and_self, Bool.or_self, Bool.and_true, Bool.true_and, Bool.and_false, Bool.false_and, Bool.or_true, Bool.true_or, Bool.or_false, Bool.false_or, Bool.not_true, Bool.not_false, cond_true, cond_false]
  | succ d ih =>
    intro k n hk hn
    obtain ⟨n, rfl⟩ : ∃ k, n = k + 1 := ⟨n - 1, by omega⟩
    have g := ih (k + 1) n (by omega) (by omega)
    have b1 := co.cm_big (S := s) v hx h1 h2 (k + 1) (by omega)
    rw [co.cm_step] at b1 g
    rw [round]
    cases ho : wo.off.sp s k with
    | false =>
      have s1 := vo.shr_f (by omega) (by omega) ho
      rw [ho, cond_false] at g b1
      simp -implicitDefEqProofs (disch := omega) only [s1, take_one, set_one, decide_eq_true, decide_eq_false, IntWalk.i64_in, beqT, beqF, bneT, bneF, nat_succ, ← Int.natCast_mul, ← Int.natCast_add, Int.toNat_natCast, Int.zero_mul, Int.zero_add, Int.add_zero, Nat.zero_add, Nat.add_zero, Nat.zero_mul, List.length_singleton, List.length_append, List.length_nil, List.length_cons, List.take_length, List.drop_zero, List.replicate_zero, List.take_nil, List.nil_append, Nat.reduceBEq, Nat.reduceMul, Nat.reduceLeDiff, eq_self, and_self, true_and, and_true, decide_true, decide_false, Bool.and_self, Bool.or_self, Bool.and_true, Bool.true_and, Bool.and_false, Bool.false_and, Bool.or_true, Bool.true_or, Bool.or_false, Bool.false_or, Bool.not_true, Bool.not_false, cond_true, cond_false]
      exact g
    | true =>
      have s1 := vo.shr_t (by omega) (by omega) ho
      rw [ho, cond_true] at g
      simp -implicitDefEqProofs (disch := omega) only [s1, take_one, set_one, decide_eq_true, decide_eq_false, IntWalk.i64_in, beqT, beqF, bneT, bneF, nat_succ, ← Int.natCast_mul, ← Int.natCast_add, Int.toNat_natCast, Int.zero_mul, Int.zero_add, Int.add_zero, Nat.zero_add, Nat.add_zero, Nat.zero_mul, List.length_singleton, List.length_append, List.length_nil, List.length_cons, List.take_length, List.drop_zero, List.replicate_zero, List.take_nil, List.nil_append, Nat.reduceBEq, Nat.reduceMul, Nat.reduceLeDiff, eq_self, and_self, true_and, and_true, decide_true, decide_false, Bool.and_self, Bool.or_self, Bool.and_true, Bool.true_and, Bool.and_false, Bool.false_and, Bool.or_true, Bool.true_or, Bool.or_false, Bool.false_or, Bool.not_true, Bool.not_false, cond_true, cond_false]
      exact g
theorem run : ∀ args v new, R args = some (true, v, new) → ∃ fuel, runFn Try.prog (orc []) hd Dr.std none fuel (bodyOf Try.f115) 36 [8] args [] = some (v, new) := by
  intro args v new h
  unfold R at h
  split at h
  · rename_i p ws m xs mx b s
    simp only [Option.some.injEq, Prod.mk.injEq, Bool.and_eq_true, decide_eq_true_eq] at h
    obtain ⟨⟨⟨rfl, rfl, hmp, hb1, hb2, h3, h4⟩, hs, hx⟩, rfl, rfl⟩ := h
    have hs2 := hs
    obtain ⟨p, rfl, hp, hw, h0, v⟩ := wo.valid hs2
    have h64 := wo.pow_le hp.2
    have h1p := wo.pow_pos p
    have hx2 : ∀ x ∈ xs, -1000000 ≤ x ∧ x ≤ 1000000 := by simpa only [List.all_eq_true, Bool.and_eq_true, decide_eq_true_eq] using hx
    have hxp : xs.length = p := by omega
    obtain ⟨s, rfl⟩ : ∃ q : Nat, s = q := ⟨s.toNat, by omega⟩
    have b0 := co.cm_big (S := s) v hx2 hb1 hb2 0 (by omega)
    rw [co.cm_start] at b0
    refine ⟨xs.length + 1, ?_⟩
    have g := loop ws xs b s (xs.length + 1) (by omega) (by omega) v hx2 hb1 hb2 xs.length 0 (xs.length + 1) (by omega) (by omega)
    rw [co.cm_start] at g
    rw [start]
    simp -implicitDefEqProofs (disch := omega) only [take_one, set_one, decide_eq_true, decide_eq_false, IntWalk.i64_in, beqT, beqF, bneT, bneF, nat_succ, ← Int.natCast_mul, ← Int.natCast_add, Int.toNat_natCast, Int.zero_mul, Int.zero_add, Int.add_zero, Nat.zero_add, Nat.add_zero, Nat.zero_mul, List.length_singleton, List.length_append, List.length_nil, List.length_cons, List.take_length, List.drop_zero, List.replicate_zero, List.take_nil, List.nil_append, Nat.reduceBEq, Nat.reduceMul, Nat.reduceLeDiff, eq_self, and_self, true_and, and_true, decide_true, decide_false, Bool.and_self, Bool.or_self, Bool.and_true, Bool.true_and, Bool.and_false, Bool.false_and, Bool.or_true, Bool.true_or, Bool.or_false, Bool.false_or, Bool.not_true, Bool.not_false, cond_true, cond_false]
    exact g
  · cases h
theorem ok : EntOk Try.prog ⟨115, R⟩ :=
  ent_okA mixed (A := (orc [])) (orc_ok (by simp)) Try.func115 (by kernel_rfl) (by kernel_rfl) (n := 36) (ts := [8]) (hd := hd) (dr := Dr.std) (cut := none) (by kernel_rfl) (by kernel_rfl) (by kernel_rfl) run
end cmp

namespace cloTrue
def R : List AVal → Option (Bool × AVal × List Blk)
  | [.int .i64 s] => some (true, .bool true, [])
  | _ => none
theorem go (s : Int) :
  runFn Try.prog (orc []) hd0 Dr.std none 0 (bodyOf Try.f114) 3 [2] [.int .i64 s] []
  = (some (AVal.bool true, [])) := by kernel_rfl
theorem run : ∀ args v new, R args = some (true, v, new) → ∃ fuel, runFn Try.prog (orc []) hd0 Dr.std none fuel (bodyOf Try.f114) 3 [2] args [] = some (v, new) := by
  intro args v new h
  unfold R at h
  split at h
  · simp only [Option.some.injEq, Prod.mk.injEq] at h
    obtain ⟨_, rfl, rfl⟩ := h
    exact ⟨0, go _⟩
  · cases h
theorem ok : EntOk Try.prog ⟨114, R⟩ :=
  ent_okA mixed (A := (orc [])) (orc_ok (by simp)) Try.func114 (by kernel_rfl) (by kernel_rfl) (n := 3) (ts := [2]) (hd := hd0) (dr := Dr.std) (cut := none) (by kernel_rfl) (by kernel_rfl) (by kernel_rfl) run
end cloTrue

namespace cloProper
def R : List AVal → Option (Bool × AVal × List Blk)
  | [.int .i64 s, .rom [.int .i64 p, .ro (.ints .i64 ws) m 1] 0] => some (decide (m = ws.length ∧ m ≤ 64 ∧ 1 ≤ m ∧ 0 ≤ s ∧ s < 64), .bool (co.pr.sp ws.length s.toNat), [])
  | _ => none
theorem go (s p : Int) (ws : List Int) :
  runFn Try.prog (orc [⟨73, wAllN.R⟩]) hd0 Dr.std none 0 (bodyOf Try.f72) 12 [3] [.int .i64 s, .rom [.int .i64 p, .ro (.ints .i64 ws) ws.length 1] 0] []
  = (bif s != (0 : Int) then bif decide (ws.length = ws.length ∧ ws.length ≤ (64 : Nat) ∧ (1 : Nat) ≤ ws.length) && (true && (true && true) && true || true && true) then some (AVal.bool (s != (↑ws.length : Int) - (1 : Int)), []) else none else some (AVal.bool false, [])) := by kernel_rfl
theorem run : ∀ args v new, R args = some (true, v, new) → ∃ fuel, runFn Try.prog (orc [⟨73, wAllN.R⟩]) hd0 Dr.std none fuel (bodyOf Try.f72) 12 [3] args [] = some (v, new) := by
  intro args v new h
  unfold R at h
  split at h
  · rename_i s p ws m
    simp only [Option.some.injEq, Prod.mk.injEq, decide_eq_true_eq] at h
    obtain ⟨⟨rfl, h1, h2, h3, h4⟩, rfl, rfl⟩ := h
    obtain ⟨s, rfl⟩ : ∃ q : Nat, s = q := ⟨s.toNat, by omega⟩
    refine ⟨0, ?_⟩
    rw [go, Int.toNat_natCast, co.pr.sp]
    by_cases c1 : s = 0
    · simp -implicitDefEqProofs (disch := omega) only [take_one, set_one, decide_eq_true, decide_eq_false, IntWalk.i64_in, beqT, beqF, bneT, bneF, nat_succ, ← Int.natCast_mul, ← Int.natCast_add, Int.toNat_natCast, Int.zero_mul, Int.zero_add, Int.add_zero, Nat.zero_add, Nat.add_zero, Nat.zero_mul, List.length_singleton, List.length_append, List.length_nil, List.length_cons, List.take_length, List.drop_zero, List.replicate_zero, List.take_nil, List.nil_append, Nat.reduceBEq, Nat.reduceMul, Nat.reduceLeDiff, eq_self, and_self, true_and, and_true, decide_true, decide_false, Bool.and_self, Bool.or_self, Bool.and_true, Bool.true_and, Bool.and_false, Bool.false_and, Bool.or_true, Bool.true_or, Bool.or_false, Bool.false_or, Bool.not_true, Bool.not_false, cond_true, cond_false]
      try rfl
    · by_cases c2 : s = ws.length - 1
      · simp -implicitDefEqProofs (disch := omega) only [take_one, set_one, decide_eq_true, decide_eq_false, IntWalk.i64_in, beqT, beqF, bneT, bneF, nat_succ, ← Int.natCast_mul, ← Int.natCast_add, Int.toNat_natCast, Int.zero_mul, Int.zero_add, Int.add_zero, Nat.zero_add, Nat.add_zero, Nat.zero_mul, List.length_singleton, List.length_append, List.length_nil, List.length_cons, List.take_length, List.drop_zero, List.replicate_zero, List.take_nil, List.nil_append, Nat.reduceBEq, Nat.reduceMul, Nat.reduceLeDiff, eq_self, and_self, true_and, and_true, decide_true, decide_false, Bool.and_self, Bool.or_self, Bool.and_true, Bool.true_and, Bool.and_false, Bool.false_and, Bool.or_true, Bool.true_or, Bool.or_false, Bool.false_or, Bool.not_true, Bool.not_false, cond_true, cond_false]
        try rfl
      · simp -implicitDefEqProofs (disch := omega) only [take_one, set_one, decide_eq_true, decide_eq_false, IntWalk.i64_in, beqT, beqF, bneT, bneF, nat_succ, ← Int.natCast_mul, ← Int.natCast_add, Int.toNat_natCast, Int.zero_mul, Int.zero_add, Int.add_zero, Nat.zero_add, Nat.add_zero, Nat.zero_mul, List.length_singleton, List.length_append, List.length_nil, List.length_cons, List.take_length, List.drop_zero, List.replicate_zero, List.take_nil, List.nil_append, Nat.reduceBEq, Nat.reduceMul, Nat.reduceLeDiff, eq_self, and_self, true_and, and_true, decide_true, decide_false, Bool.and_self, Bool.or_self, Bool.and_true, Bool.true_and, Bool.and_false, Bool.false_and, Bool.or_true, Bool.true_or, Bool.or_false, Bool.false_or, Bool.not_true, Bool.not_false, cond_true, cond_false]
        try rfl
  · cases h
theorem ok : EntOk Try.prog ⟨72, R⟩ :=
  ent_okA mixed (A := (orc [⟨73, wAllN.R⟩])) (orc_ok (by simp only [List.mem_cons, List.not_mem_nil, or_false, forall_eq_or_imp, forall_eq]; exact wAllN.ok)) Try.func72 (by kernel_rfl) (by kernel_rfl) (n := 12) (ts := [3]) (hd := hd0) (dr := Dr.std) (cut := none) (by kernel_rfl) (by kernel_rfl) (by kernel_rfl) run
end cloProper

namespace cloM2
def R : List AVal → Option (Bool × AVal × List Blk)
  | [.int .i64 s, .rom [.int .i64 i] 0, .rom [.int .i64 k] 0] => some (decide (0 ≤ s ∧ s < 64 ∧ 0 ≤ i ∧ i < 6 ∧ 0 ≤ k ∧ k < 6), .bool (co.m2.sp i.toNat k.toNat s.toNat), [])
  | _ => none
theorem go (s i k : Int) :
  runFn Try.prog (orc []) hd0 Dr.std none 0 (bodyOf Try.f80) 17 [4] [.int .i64 s, .rom [.int .i64 i] 0, .rom [.int .i64 k] 0] []
  = (bif decide ((0 : Int) ≤ i) then bif iand.sv IntKind.i64 (ishr.sv IntKind.i64 s i) (1 : Int) == (1 : Int) then bif decide ((0 : Int) ≤ k) then some (AVal.bool (iand.sv IntKind.i64 (ishr.sv IntKind.i64 s k) (1 : Int) == (0 : Int)), []) else none else some (AVal.bool false, []) else none) := by kernel_rfl
theorem run : ∀ args v new, R args = some (true, v, new) → ∃ fuel, runFn Try.prog (orc []) hd0 Dr.std none fuel (bodyOf Try.f80) 17 [4] args [] = some (v, new) := by
  intro args v new h
  unfold R at h
  split at h
  · rename_i s i k
    simp only [Option.some.injEq, Prod.mk.injEq, decide_eq_true_eq] at h
    obtain ⟨⟨h1, h2, h3, h4, h5, h6⟩, rfl, rfl⟩ := h
    obtain ⟨s, rfl⟩ : ∃ q : Nat, s = q := ⟨s.toNat, by omega⟩
    obtain ⟨i, rfl⟩ : ∃ q : Nat, i = q := ⟨i.toNat, by omega⟩
    obtain ⟨k, rfl⟩ : ∃ q : Nat, k = q := ⟨k.toNat, by omega⟩
    refine ⟨0, ?_⟩
    rw [go, Int.toNat_natCast, Int.toNat_natCast, Int.toNat_natCast, co.m2.sp]
    cases ho : wo.off.sp s i with
    | true =>
      have s1 := vo.shr_t (by omega) (by omega) ho
      simp -implicitDefEqProofs (disch := omega) only [s1, take_one, set_one, decide_eq_true, decide_eq_false, IntWalk.i64_in, beqT, beqF, bneT, bneF, nat_succ, ← Int.natCast_mul, ← Int.natCast_add, Int.toNat_natCast, Int.zero_mul, Int.zero_add, Int.add_zero, Nat.zero_add, Nat.add_zero, Nat.zero_mul, List.length_singleton, List.length_append, List.length_nil, List.length_cons, List.take_length, List.drop_zero, List.replicate_zero, List.take_nil, List.nil_append, Nat.reduceBEq, Nat.reduceMul, Nat.reduceLeDiff, eq_self, and_self, true_and, and_true, decide_true, decide_false, Bool.and_self, Bool.or_self, Bool.and_true, Bool.true_and, Bool.and_false, Bool.false_and, Bool.or_true, Bool.true_or, Bool.or_false, Bool.false_or, Bool.not_true, Bool.not_false, cond_true, cond_false]
      try rfl
    | false =>
      have s1 := vo.shr_f (by omega) (by omega) ho
      cases hk : wo.off.sp s k with
      | true =>
        have s2 := vo.shr_t (by omega) (by omega) hk
        simp -implicitDefEqProofs (disch := omega) only [s1, s2, take_one, set_one, decide_eq_true, decide_eq_false, IntWalk.i64_in, beqT, beqF, bneT, bneF, nat_succ, ← Int.natCast_mul, ← Int.natCast_add, Int.toNat_natCast, Int.zero_mul, Int.zero_add, Int.add_zero, Nat.zero_add, Nat.add_zero, Nat.zero_mul, List.length_singleton, List.length_append, List.length_nil, List.length_cons, List.take_length, List.drop_zero, List.replicate_zero, List.take_nil, List.nil_append, Nat.reduceBEq, Nat.reduceMul, Nat.reduceLeDiff, eq_self, and_self, true_and, and_true, decide_true, decide_false, Bool.and_self, Bool.or_self, Bool.and_true, Bool.true_and, Bool.and_false, Bool.false_and, Bool.or_true, Bool.true_or, Bool.or_false, Bool.false_or, Bool.not_true, Bool.not_false, cond_true, cond_false]
        try rfl
      | false =>
        have s2 := vo.shr_f (by omega) (by omega) hk
        simp -implicitDefEqProofs (disch := omega) only [s1, s2, take_one, set_one, decide_eq_true, decide_eq_false, IntWalk.i64_in, beqT, beqF, bneT, bneF, nat_succ, ← Int.natCast_mul, ← Int.natCast_add, Int.toNat_natCast, Int.zero_mul, Int.zero_add, Int.add_zero, Nat.zero_add, Nat.add_zero, Nat.zero_mul, List.length_singleton, List.length_append, List.length_nil, List.length_cons, List.take_length, List.drop_zero, List.replicate_zero, List.take_nil, List.nil_append, Nat.reduceBEq, Nat.reduceMul, Nat.reduceLeDiff, eq_self, and_self, true_and, and_true, decide_true, decide_false, Bool.and_self, Bool.or_self, Bool.and_true, Bool.true_and, Bool.and_false, Bool.false_and, Bool.or_true, Bool.true_or, Bool.or_false, Bool.false_or, Bool.not_true, Bool.not_false, cond_true, cond_false]
        try rfl
  · cases h
theorem ok : EntOk Try.prog ⟨80, R⟩ :=
  ent_okA mixed (A := (orc [])) (orc_ok (by simp)) Try.func80 (by kernel_rfl) (by kernel_rfl) (n := 17) (ts := [4]) (hd := hd0) (dr := Dr.std) (cut := none) (by kernel_rfl) (by kernel_rfl) (by kernel_rfl) run
end cloM2

namespace worstTrue
def R : List AVal → Option (Bool × AVal × List Blk)
  | [.agg [.int .i64 p, .ro (.ints .i64 ws) m 1], .ro (.ints .i64 xs) mx 1, .int .i64 b, .fn ff []] => some (decide (m = ws.length ∧ mx = xs.length ∧ (mx : Int) = p ∧ 1 ≤ b ∧ b ≤ 1000 ∧ ff = 114) && (wo.sp p ws && (xs.all fun x => decide (-1000000 ≤ x) && decide (x ≤ 1000000))), .tup [.int .i64 (co.wst.sv (fun S => co.cm.sv ws xs b S xs.length) (co.tt.sp) ws.length).1, .int .i64 (co.wst.sv (fun S => co.cm.sv ws xs b S xs.length) (co.tt.sp) ws.length).2], [])
  | _ => none
def hd : Nat → Head := fun _ => ⟨[1, 2, 3, 4, 10, 11, 16, 17, 998], none⟩
noncomputable def L (f n : Nat) (s : State) := loopAt Try.prog (orc [⟨114, cloTrue.R⟩, ⟨115, cmp.R⟩]) hd Dr.std 0 f (bodyOf Try.f71) 0 [true, true, false, true] (retK Try.prog [8, 9] 0 none) n s
theorem start (p b : Int) (ws xs : List Int)  (f : Nat) :
  runFn Try.prog (orc [⟨114, cloTrue.R⟩, ⟨115, cmp.R⟩]) hd Dr.std none f (bodyOf Try.f71) 41 [8, 9] [.agg [.int .i64 p, .ro (.ints .i64 ws) ws.length 1], .ro (.ints .i64 xs) xs.length 1, .int .i64 b, .fn 114 []] []
  = (bif true && true then L f f (mkS (41 : Nat) [((1 : Nat), AVal.ro (Cont.ints IntKind.i64 xs) xs.length (1 : Nat)), ((2 : Nat), AVal.int IntKind.i64 b), ((3 : Nat), AVal.fn (114 : Nat) []), ((4 : Nat), AVal.ptr (0 : Nat) (0 : Nat) (0 : Nat)), ((10 : Nat), AVal.int IntKind.i64 (0 : Int)), ((11 : Nat), AVal.int IntKind.i64 (-1 : Int)), ((16 : Nat), AVal.int IntKind.i64 (↑ws.length : Int)), ((17 : Nat), AVal.int IntKind.i64 (0 : Int))] [{ c := BC.cells [AVal.int IntKind.i64 p, AVal.ro (Cont.ints IntKind.i64 ws) ws.length (1 : Nat)], ver := (0 : Nat) }]) else none) := by kernel_rfl
theorem round (p b mo be l k : Int) (ws xs : List Int)  (f n : Nat) :
  L f (n + 1) (mkS 41 [(1, .ro (.ints .i64 xs) xs.length 1), (2, .int .i64 b), (3, .fn 114 []), (4, .ptr 0 0 0), (10, .int .i64 mo), (11, .int .i64 be), (16, .int .i64 l), (17, .int .i64 k)] [⟨.cells [.int .i64 p, .ro (.ints .i64 ws) ws.length 1], 0⟩])
  = (bif decide (k < l) then bif true && (true && true || true && true) then bif true && true && (true && true && true) then bif decide (ws.length = ws.length ∧ xs.length = xs.length ∧ (↑xs.length : Int) = p ∧ (1 : Int) ≤ b ∧ b ≤ (1000 : Int) ∧ (0 : Int) ≤ k ∧ k < (↑ws.length : Int)) && (wo.sp p ws && xs.all fun x => decide ((-1000000 : Int) ≤ x) && decide (x ≤ (1000000 : Int))) && (true && (true && true) && (true && (true && (true && true))) || true && true) then bif decide (be < (0 : Int)) then L f n (mkS (41 : Nat) [((1 : Nat), AVal.ro (Cont.ints IntKind.i64 xs) xs.length (1 : Nat)), ((2 : Nat), AVal.int IntKind.i64 b), ((3 : Nat), AVal.fn (114 : Nat) []), ((4 : Nat), AVal.ptr (0 : Nat) (0 : Nat) (0 : Nat)), ((10 : Nat), AVal.int IntKind.i64 (co.cm.sv ws xs b k.toNat xs.length)), ((11 : Nat), AVal.int IntKind.i64 k), ((16 : Nat), AVal.int IntKind.i64 l), ((17 : Nat), AVal.int IntKind.i64 (IntKind.i64.wrap (k + (1 : Int))))] [{ c := BC.cells [AVal.int IntKind.i64 p, AVal.ro (Cont.ints IntKind.i64 ws) ws.length (1 : Nat)], ver := (0 : Nat) }]) else bif decide (mo < co.cm.sv ws xs b k.toNat xs.length) then L f n (mkS (41 : Nat) [((1 : Nat), AVal.ro (Cont.ints IntKind.i64 xs) xs.length (1 : Nat)), ((2 : Nat), AVal.int IntKind.i64 b), ((3 : Nat), AVal.fn (114 : Nat) []), ((4 : Nat), AVal.ptr (0 : Nat) (0 : Nat) (0 : Nat)), ((10 : Nat), AVal.int IntKind.i64 (co.cm.sv ws xs b k.toNat xs.length)), ((11 : Nat), AVal.int IntKind.i64 k), ((16 : Nat), AVal.int IntKind.i64 l), ((17 : Nat), AVal.int IntKind.i64 (IntKind.i64.wrap (k + (1 : Int))))] [{ c := BC.cells [AVal.int IntKind.i64 p, AVal.ro (Cont.ints IntKind.i64 ws) ws.length (1 : Nat)], ver := (0 : Nat) }]) else L f n (mkS (41 : Nat) [((1 : Nat), AVal.ro (Cont.ints IntKind.i64 xs) xs.length (1 : Nat)), ((2 : Nat), AVal.int IntKind.i64 b), ((3 : Nat), AVal.fn (114 : Nat) []), ((4 : Nat), AVal.ptr (0 : Nat) (0 : Nat) (0 : Nat)), ((10 : Nat), AVal.int IntKind.i64 mo), ((11 : Nat), AVal.int IntKind.i64 be), ((16 : Nat), AVal.int IntKind.i64 l), ((17 : Nat), AVal.int IntKind.i64 (IntKind.i64.wrap (k + (1 : Int))))] [{ c := BC.cells [AVal.int IntKind.i64 p, AVal.ro (Cont.ints IntKind.i64 ws) ws.length (1 : Nat)], ver := (0 : Nat) }]) else none else none else none else some (AVal.tup [AVal.int IntKind.i64 mo, AVal.int IntKind.i64 be], [{ c := BC.cells [AVal.int IntKind.i64 p, AVal.ro (Cont.ints IntKind.i64 ws) ws.length (1 : Nat)], ver := (0 : Nat) }])) := by kernel_rfl
theorem loop (p : Nat) (ws xs : List Int) (b : Int)  (f : Nat) (hs : wo.sp (p : Int) ws = true) (hxs : (xs.all fun x => decide (-1000000 ≤ x) && decide (x ≤ 1000000)) = true) (hxp : xs.length = p) (hl : ws.length ≤ 64) (h1 : 1 ≤ b) (h2 : b ≤ 1000)  : ∀ (d k n : Nat), k + d = ws.length → d < n →
    L f n (mkS 41 [(1, .ro (.ints .i64 xs) xs.length 1), (2, .int .i64 b), (3, .fn 114 []), (4, .ptr 0 0 0), (10, .int .i64 (co.wst.sv (fun S => co.cm.sv ws xs b S xs.length) (co.tt.sp) k).1), (11, .int .i64 (co.wst.sv (fun S => co.cm.sv ws xs b S xs.length) (co.tt.sp) k).2), (16, .int .i64 ((ws.length : Nat) : Int)), (17, .int .i64 ((k : Nat) : Int))] [⟨.cells [.int .i64 ((p : Nat) : Int), .ro (.ints .i64 ws) ws.length 1], 0⟩]) = some (.tup [.int .i64 (co.wst.sv (fun S => co.cm.sv ws xs b S xs.length) (co.tt.sp) ws.length).1, .int .i64 (co.wst.sv (fun S => co.cm.sv ws xs b S xs.length) (co.tt.sp) ws.length).2], [⟨.cells [.int .i64 ((p : Nat) : Int), .ro (.ints .i64 ws) ws.length 1], 0⟩]) := by
  intro d
  induction d with
  | zero =>
    intro k n hk hn
    obtain ⟨n, rfl⟩ : ∃ k, n = k + 1 := ⟨n - 1, by omega⟩
    obtain rfl : k = ws.length := by omega
    rw [round]
    simp -implicitDefEqProofs (disch := omega) only [take_one, set_one, decide_eq_true, decide_eq_false, IntWalk.i64_in, beqT, beqF, bneT, bneF, nat_succ, ← Int.natCast_mul, ← Int.natCast_add, Int.toNat_natCast, Int.zero_mul, Int.zero_add, Int.add_zero, Nat.zero_add, Nat.add_zero, Nat.zero_mul, List.length_singleton, List.length_append, List.length_nil, List.length_cons, List.take_length, List.drop_zero, List.replicate_zero, List.take_nil, List.nil_append, Nat.reduceBEq, Nat.reduceMul, Nat.reduceLeDiff, eq_self, and_self, true_and, and_true, decide_true, decide_false, Bool.and_self, Bool.or_self, Bool.and_true, Bool.true_and, Bool.and_false, Bool.false_and, Bool.or_true, Bool.true_or, Bool.or_false, Bool.false_or, Bool.not_true, Bool.not_false, cond_true, cond_false]
  | succ d ih =>
    intro k n hk hn
    obtain ⟨n, rfl⟩ : ∃ k, n = k + 1 := ⟨n - 1, by omega⟩
    have g := ih (k + 1) n (by omega) (by omega)
    rw [co.wst.sv] at g
    generalize co.wst.sv (fun S => co.cm.sv ws xs b S xs.length) (co.tt.sp) k = r at g ⊢
    rw [round]
    have hM : co.tt.sp k = true := rfl
    rw [hM, cond_true] at g
    by_cases c1 : r.2 < 0
    · rw [decide_eq_true c1, Bool.true_or, cond_true] at g
      simp -implicitDefEqProofs (disch := omega) only [hs, hxs, hM, take_one, set_one, decide_eq_true, decide_eq_false, IntWalk.i64_in, beqT, beqF, bneT, bneF, nat_succ, ← Int.natCast_mul, ← Int.natCast_add, Int.toNat_natCast, Int.zero_mul, Int.zero_add, Int.add_zero, Nat.zero_add, Nat.add_zero, Nat.zero_mul, List.length_singleton, List.length_append, List.length_nil, List.length_cons, List.take_length, List.drop_zero, List.replicate_zero, List.take_nil, List.nil_append, Nat.reduceBEq, Nat.reduceMul, Nat.reduceLeDiff, eq_self, and_self, true_and, and_true, decide_true, decide_false, Bool.and_self, Bool.or_self, Bool.and_true, Bool.true_and, Bool.and_false, Bool.false_and, Bool.or_true, Bool.true_or, Bool.or_false, Bool.false_or, Bool.not_true, Bool.not_false, cond_true, cond_false]
      exact g
    · by_cases c2 : r.1 < co.cm.sv ws xs b k xs.length
      · rw [decide_eq_true c2, Bool.or_true, cond_true] at g
        simp -implicitDefEqProofs (disch := omega) only [hs, hxs, hM, take_one, set_one, decide_eq_true, decide_eq_false, IntWalk.i64_in, beqT, beqF, bneT, bneF, nat_succ, ← Int.natCast_mul, ← Int.natCast_add, Int.toNat_natCast, Int.zero_mul, Int.zero_add, Int.add_zero, Nat.zero_add, Nat.add_zero, Nat.zero_mul, List.length_singleton, List.length_append, List.length_nil, List.length_cons, List.take_length, List.drop_zero, List.replicate_zero, List.take_nil, List.nil_append, Nat.reduceBEq, Nat.reduceMul, Nat.reduceLeDiff, eq_self, and_self, true_and, and_true, decide_true, decide_false, Bool.and_self, Bool.or_self, Bool.and_true, Bool.true_and, Bool.and_false, Bool.false_and, Bool.or_true, Bool.true_or, Bool.or_false, Bool.false_or, Bool.not_true, Bool.not_false, cond_true, cond_false]
        exact g
      · rw [decide_eq_false c1, decide_eq_false c2, Bool.or_false, cond_false] at g
        simp -implicitDefEqProofs (disch := omega) only [hs, hxs, hM, take_one, set_one, decide_eq_true, decide_eq_false, IntWalk.i64_in, beqT, beqF, bneT, bneF, nat_succ, ← Int.natCast_mul, ← Int.natCast_add, Int.toNat_natCast, Int.zero_mul, Int.zero_add, Int.add_zero, Nat.zero_add, Nat.add_zero, Nat.zero_mul, List.length_singleton, List.length_append, List.length_nil, List.length_cons, List.take_length, List.drop_zero, List.replicate_zero, List.take_nil, List.nil_append, Nat.reduceBEq, Nat.reduceMul, Nat.reduceLeDiff, eq_self, and_self, true_and, and_true, decide_true, decide_false, Bool.and_self, Bool.or_self, Bool.and_true, Bool.true_and, Bool.and_false, Bool.false_and, Bool.or_true, Bool.true_or, Bool.or_false, Bool.false_or, Bool.not_true, Bool.not_false, cond_true, cond_false]
        exact g
theorem run : ∀ args v new, R args = some (true, v, new) → ∃ fuel, regc [] (runFn Try.prog (orc [⟨114, cloTrue.R⟩, ⟨115, cmp.R⟩]) hd Dr.std none fuel (bodyOf Try.f71) 41 [8, 9] args []) = some (v, new) := by
  intro args v new h
  unfold R at h
  split at h
  · rename_i p ws m xs mx b ff
    simp only [Option.some.injEq, Prod.mk.injEq, Bool.and_eq_true, decide_eq_true_eq] at h
    obtain ⟨⟨⟨rfl, rfl, hmp, hb1, hb2, rfl⟩, hs, hx⟩, rfl, rfl⟩ := h
    have hs2 := hs
    obtain ⟨p, rfl, hp, hw, h0, v⟩ := wo.valid hs2
    have h64 := wo.pow_le hp.2
    have h1p := wo.pow_pos p
    have hx2 : ∀ x ∈ xs, -1000000 ≤ x ∧ x ≤ 1000000 := by simpa only [List.all_eq_true, Bool.and_eq_true, decide_eq_true_eq] using hx
    have hxp : xs.length = p := by omega
    obtain ⟨F, hF⟩ : ∃ F : Nat, F = 100 := ⟨100, rfl⟩
    refine ⟨F, ?_⟩
    have g := loop p ws xs b  F hs hx hxp (by omega) hb1 hb2  ws.length 0 F (by omega) (by omega)
    rw [start]
    try simp -implicitDefEqProofs (disch := omega) only [take_one, set_one, decide_eq_true, decide_eq_false, IntWalk.i64_in, beqT, beqF, bneT, bneF, nat_succ, ← Int.natCast_mul, ← Int.natCast_add, Int.toNat_natCast, Int.zero_mul, Int.zero_add, Int.add_zero, Nat.zero_add, Nat.add_zero, Nat.zero_mul, List.length_singleton, List.length_append, List.length_nil, List.length_cons, List.take_length, List.drop_zero, List.replicate_zero, List.take_nil, List.nil_append, Nat.reduceBEq, Nat.reduceMul, Nat.reduceLeDiff, eq_self, and_self, true_and, and_true, decide_true, decide_false, Bool.and_self, Bool.or_self, Bool.and_true, Bool.true_and, Bool.and_false, Bool.false_and, Bool.or_true, Bool.true_or, Bool.or_false, Bool.false_or, Bool.not_true, Bool.not_false, cond_true, cond_false]
    exact congrArg (regc []) g
  · cases h
theorem ok : EntOk Try.prog ⟨71, R⟩ :=
  ent_okAG (ks := []) mixed (A := (orc [⟨114, cloTrue.R⟩, ⟨115, cmp.R⟩])) (orc_ok (by simp only [List.mem_cons, List.not_mem_nil, or_false, forall_eq_or_imp, forall_eq]; exact ⟨cloTrue.ok, cmp.ok⟩)) Try.func71 (by kernel_rfl) (by kernel_rfl) (n := 41) (ts := [8, 9]) (hd := hd) (dr := Dr.std) (cut := none) (by kernel_rfl) (by kernel_rfl) (by kernel_rfl) run
end worstTrue

namespace worstProper
def R : List AVal → Option (Bool × AVal × List Blk)
  | [.agg [.int .i64 p, .ro (.ints .i64 ws) m 1], .ro (.ints .i64 xs) mx 1, .int .i64 b, .fn ff [.rom [.int .i64 p2, .ro (.ints .i64 ws2) m2 1] 0]] => some (decide (m = ws.length ∧ mx = xs.length ∧ (mx : Int) = p ∧ 1 ≤ b ∧ b ≤ 1000 ∧ ff = 72 ∧ ws2 = ws ∧ m2 = ws.length) && (wo.sp p ws && (xs.all fun x => decide (-1000000 ≤ x) && decide (x ≤ 1000000))), .tup [.int .i64 (co.wst.sv (fun S => co.cm.sv ws xs b S xs.length) (co.pr.sp ws.length) ws.length).1, .int .i64 (co.wst.sv (fun S => co.cm.sv ws xs b S xs.length) (co.pr.sp ws.length) ws.length).2], [])
  | _ => none
def hd : Nat → Head := fun _ => ⟨[1, 2, 3, 4, 10, 11, 16, 17, 998], none⟩
noncomputable def L (f n : Nat) (s : State) := loopAt Try.prog (orc [⟨72, cloProper.R⟩, ⟨115, cmp.R⟩]) hd Dr.std 0 f (bodyOf Try.f71) 0 [true, true, false, true] (retK Try.prog [8, 9] 0 none) n s
theorem start (p b : Int) (ws xs : List Int) (p2 : Int) (f : Nat) :
  runFn Try.prog (orc [⟨72, cloProper.R⟩, ⟨115, cmp.R⟩]) hd Dr.std none f (bodyOf Try.f71) 41 [8, 9] [.agg [.int .i64 p, .ro (.ints .i64 ws) ws.length 1], .ro (.ints .i64 xs) xs.length 1, .int .i64 b, .fn 72 [.rom [.int .i64 p2, .ro (.ints .i64 ws) ws.length 1] 0]] []
  = (bif true && true then L f f (mkS (41 : Nat) [((1 : Nat), AVal.ro (Cont.ints IntKind.i64 xs) xs.length (1 : Nat)), ((2 : Nat), AVal.int IntKind.i64 b), ((3 : Nat), AVal.fn (72 : Nat) [AVal.rom [AVal.int IntKind.i64 p2, AVal.ro (Cont.ints IntKind.i64 ws) ws.length (1 : Nat)] (0 : Nat)]), ((4 : Nat), AVal.ptr (0 : Nat) (0 : Nat) (0 : Nat)), ((10 : Nat), AVal.int IntKind.i64 (0 : Int)), ((11 : Nat), AVal.int IntKind.i64 (-1 : Int)), ((16 : Nat), AVal.int IntKind.i64 (↑ws.length : Int)), ((17 : Nat), AVal.int IntKind.i64 (0 : Int))] [{ c := BC.cells [AVal.int IntKind.i64 p, AVal.ro (Cont.ints IntKind.i64 ws) ws.length (1 : Nat)], ver := (0 : Nat) }]) else none) := by kernel_rfl
theorem round (p b mo be l k : Int) (ws xs : List Int) (p2 : Int) (f n : Nat) :
  L f (n + 1) (mkS 41 [(1, .ro (.ints .i64 xs) xs.length 1), (2, .int .i64 b), (3, .fn 72 [.rom [.int .i64 p2, .ro (.ints .i64 ws) ws.length 1] 0]), (4, .ptr 0 0 0), (10, .int .i64 mo), (11, .int .i64 be), (16, .int .i64 l), (17, .int .i64 k)] [⟨.cells [.int .i64 p, .ro (.ints .i64 ws) ws.length 1], 0⟩])
  = (bif decide (k < l) then bif decide (ws.length = ws.length ∧ ws.length ≤ (64 : Nat) ∧ (1 : Nat) ≤ ws.length ∧ (0 : Int) ≤ k ∧ k < (64 : Int)) && (true && (true && (true && true) && true) || true && true) then bif !co.pr.sp ws.length k.toNat then L f n (mkS (41 : Nat) [((1 : Nat), AVal.ro (Cont.ints IntKind.i64 xs) xs.length (1 : Nat)), ((2 : Nat), AVal.int IntKind.i64 b), ((3 : Nat), AVal.fn (72 : Nat) [AVal.rom [AVal.int IntKind.i64 p2, AVal.ro (Cont.ints IntKind.i64 ws) ws.length (1 : Nat)] (0 : Nat)]), ((4 : Nat), AVal.ptr (0 : Nat) (0 : Nat) (0 : Nat)), ((10 : Nat), AVal.int IntKind.i64 mo), ((11 : Nat), AVal.int IntKind.i64 be), ((16 : Nat), AVal.int IntKind.i64 l), ((17 : Nat), AVal.int IntKind.i64 (IntKind.i64.wrap (k + (1 : Int))))] [{ c := BC.cells [AVal.int IntKind.i64 p, AVal.ro (Cont.ints IntKind.i64 ws) ws.length (1 : Nat)], ver := (0 : Nat) }]) else bif true && true && (true && true && true) then bif decide (ws.length = ws.length ∧ xs.length = xs.length ∧ (↑xs.length : Int) = p ∧ (1 : Int) ≤ b ∧ b ≤ (1000 : Int) ∧ (0 : Int) ≤ k ∧ k < (↑ws.length : Int)) && (wo.sp p ws && xs.all fun x => decide ((-1000000 : Int) ≤ x) && decide (x ≤ (1000000 : Int))) && (true && (true && true) && (true && (true && (true && true))) || true && true) then bif decide (be < (0 : Int)) then L f n (mkS (41 : Nat) [((1 : Nat), AVal.ro (Cont.ints IntKind.i64 xs) xs.length (1 : Nat)), ((2 : Nat), AVal.int IntKind.i64 b), ((3 : Nat), AVal.fn (72 : Nat) [AVal.rom [AVal.int IntKind.i64 p2, AVal.ro (Cont.ints IntKind.i64 ws) ws.length (1 : Nat)] (0 : Nat)]), ((4 : Nat), AVal.ptr (0 : Nat) (0 : Nat) (0 : Nat)), ((10 : Nat), AVal.int IntKind.i64 (co.cm.sv ws xs b k.toNat xs.length)), ((11 : Nat), AVal.int IntKind.i64 k), ((16 : Nat), AVal.int IntKind.i64 l), ((17 : Nat), AVal.int IntKind.i64 (IntKind.i64.wrap (k + (1 : Int))))] [{ c := BC.cells [AVal.int IntKind.i64 p, AVal.ro (Cont.ints IntKind.i64 ws) ws.length (1 : Nat)], ver := (0 : Nat) }]) else bif decide (mo < co.cm.sv ws xs b k.toNat xs.length) then L f n (mkS (41 : Nat) [((1 : Nat), AVal.ro (Cont.ints IntKind.i64 xs) xs.length (1 : Nat)), ((2 : Nat), AVal.int IntKind.i64 b), ((3 : Nat), AVal.fn (72 : Nat) [AVal.rom [AVal.int IntKind.i64 p2, AVal.ro (Cont.ints IntKind.i64 ws) ws.length (1 : Nat)] (0 : Nat)]), ((4 : Nat), AVal.ptr (0 : Nat) (0 : Nat) (0 : Nat)), ((10 : Nat), AVal.int IntKind.i64 (co.cm.sv ws xs b k.toNat xs.length)), ((11 : Nat), AVal.int IntKind.i64 k), ((16 : Nat), AVal.int IntKind.i64 l), ((17 : Nat), AVal.int IntKind.i64 (IntKind.i64.wrap (k + (1 : Int))))] [{ c := BC.cells [AVal.int IntKind.i64 p, AVal.ro (Cont.ints IntKind.i64 ws) ws.length (1 : Nat)], ver := (0 : Nat) }]) else L f n (mkS (41 : Nat) [((1 : Nat), AVal.ro (Cont.ints IntKind.i64 xs) xs.length (1 : Nat)), ((2 : Nat), AVal.int IntKind.i64 b), ((3 : Nat), AVal.fn (72 : Nat) [AVal.rom [AVal.int IntKind.i64 p2, AVal.ro (Cont.ints IntKind.i64 ws) ws.length (1 : Nat)] (0 : Nat)]), ((4 : Nat), AVal.ptr (0 : Nat) (0 : Nat) (0 : Nat)), ((10 : Nat), AVal.int IntKind.i64 mo), ((11 : Nat), AVal.int IntKind.i64 be), ((16 : Nat), AVal.int IntKind.i64 l), ((17 : Nat), AVal.int IntKind.i64 (IntKind.i64.wrap (k + (1 : Int))))] [{ c := BC.cells [AVal.int IntKind.i64 p, AVal.ro (Cont.ints IntKind.i64 ws) ws.length (1 : Nat)], ver := (0 : Nat) }]) else none else none else none else some (AVal.tup [AVal.int IntKind.i64 mo, AVal.int IntKind.i64 be], [{ c := BC.cells [AVal.int IntKind.i64 p, AVal.ro (Cont.ints IntKind.i64 ws) ws.length (1 : Nat)], ver := (0 : Nat) }])) := by kernel_rfl
theorem loop (p : Nat) (ws xs : List Int) (b : Int) (p2 : Int) (f : Nat) (hs : wo.sp (p : Int) ws = true) (hxs : (xs.all fun x => decide (-1000000 ≤ x) && decide (x ≤ 1000000)) = true) (hxp : xs.length = p) (hl : ws.length ≤ 64) (h1 : 1 ≤ b) (h2 : b ≤ 1000)  : ∀ (d k n : Nat), k + d = ws.length → d < n →
    L f n (mkS 41 [(1, .ro (.ints .i64 xs) xs.length 1), (2, .int .i64 b), (3, .fn 72 [.rom [.int .i64 p2, .ro (.ints .i64 ws) ws.length 1] 0]), (4, .ptr 0 0 0), (10, .int .i64 (co.wst.sv (fun S => co.cm.sv ws xs b S xs.length) (co.pr.sp ws.length) k).1), (11, .int .i64 (co.wst.sv (fun S => co.cm.sv ws xs b S xs.length) (co.pr.sp ws.length) k).2), (16, .int .i64 ((ws.length : Nat) : Int)), (17, .int .i64 ((k : Nat) : Int))] [⟨.cells [.int .i64 ((p : Nat) : Int), .ro (.ints .i64 ws) ws.length 1], 0⟩]) = some (.tup [.int .i64 (co.wst.sv (fun S => co.cm.sv ws xs b S xs.length) (co.pr.sp ws.length) ws.length).1, .int .i64 (co.wst.sv (fun S => co.cm.sv ws xs b S xs.length) (co.pr.sp ws.length) ws.length).2], [⟨.cells [.int .i64 ((p : Nat) : Int), .ro (.ints .i64 ws) ws.length 1], 0⟩]) := by
  intro d
  induction d with
  | zero =>
    intro k n hk hn
    obtain ⟨n, rfl⟩ : ∃ k, n = k + 1 := ⟨n - 1, by omega⟩
    obtain rfl : k = ws.length := by omega
    rw [round]
    simp -implicitDefEqProofs (disch := omega) only [take_one, set_one, decide_eq_true, decide_eq_false, IntWalk.i64_in, beqT, beqF, bneT, bneF, nat_succ, ← Int.natCast_mul, ← Int.natCast_add, Int.toNat_natCast, Int.zero_mul, Int.zero_add, Int.add_zero, Nat.zero_add, Nat.add_zero, Nat.zero_mul, List.length_singleton, List.length_append, List.length_nil, List.length_cons, List.take_length, List.drop_zero, List.replicate_zero, List.take_nil, List.nil_append, Nat.reduceBEq, Nat.reduceMul, Nat.reduceLeDiff, eq_self, and_self, true_and, and_true, decide_true, decide_false, Bool.and_self, Bool.or_self, Bool.and_true, Bool.true_and, Bool.and_false, Bool.false_and, Bool.or_true, Bool.true_or, Bool.or_false, Bool.false_or, Bool.not_true, Bool.not_false, cond_true, cond_false]
  | succ d ih =>
    intro k n hk hn
    obtain ⟨n, rfl⟩ : ∃ k, n = k + 1 := ⟨n - 1, by omega⟩
    have g := ih (k + 1) n (by omega) (by omega)
    rw [co.wst.sv] at g
    generalize co.wst.sv (fun S => co.cm.sv ws xs b S xs.length) (co.pr.sp ws.length) k = r at g ⊢
    rw [round]
    cases hM : (co.pr.sp ws.length) k with
    | false =>
      rw [hM, cond_false] at g
      simp -implicitDefEqProofs (disch := omega) only [hs, hxs, hM, take_one, set_one, decide_eq_true, decide_eq_false, IntWalk.i64_in, beqT, beqF, bneT, bneF, nat_succ, ← Int.natCast_mul, ← Int.natCast_add, Int.toNat_natCast, Int.zero_mul, Int.zero_add, Int.add_zero, Nat.zero_add, Nat.add_zero, Nat.zero_mul, List.length_singleton, List.length_append, List.length_nil, List.length_cons, List.take_length, List.drop_zero, List.replicate_zero, List.take_nil, List.nil_append, Nat.reduceBEq, Nat.reduceMul, Nat.reduceLeDiff, eq_self, and_self, true_and, and_true, decide_true, decide_false, Bool.and_self, Bool.or_self, Bool.and_true, Bool.true_and, Bool.and_false, Bool.false_and, Bool.or_true, Bool.true_or, Bool.or_false, Bool.false_or, Bool.not_true, Bool.not_false, cond_true, cond_false]
      exact g
    | true =>
      rw [hM, cond_true] at g
      by_cases c1 : r.2 < 0
      · rw [decide_eq_true c1, Bool.true_or, cond_true] at g
        simp -implicitDefEqProofs (disch := omega) only [hs, hxs, hM, take_one, set_one, decide_eq_true, decide_eq_false, IntWalk.i64_in, beqT, beqF, bneT, bneF, nat_succ, ← Int.natCast_mul, ← Int.natCast_add, Int.toNat_natCast, Int.zero_mul, Int.zero_add, Int.add_zero, Nat.zero_add, Nat.add_zero, Nat.zero_mul, List.length_singleton, List.length_append, List.length_nil, List.length_cons, List.take_length, List.drop_zero, List.replicate_zero, List.take_nil, List.nil_append, Nat.reduceBEq, Nat.reduceMul, Nat.reduceLeDiff, eq_self, and_self, true_and, and_true, decide_true, decide_false, Bool.and_self, Bool.or_self, Bool.and_true, Bool.true_and, Bool.and_false, Bool.false_and, Bool.or_true, Bool.true_or, Bool.or_false, Bool.false_or, Bool.not_true, Bool.not_false, cond_true, cond_false]
        exact g
      · by_cases c2 : r.1 < co.cm.sv ws xs b k xs.length
        · rw [decide_eq_true c2, Bool.or_true, cond_true] at g
          simp -implicitDefEqProofs (disch := omega) only [hs, hxs, hM, take_one, set_one, decide_eq_true, decide_eq_false, IntWalk.i64_in, beqT, beqF, bneT, bneF, nat_succ, ← Int.natCast_mul, ← Int.natCast_add, Int.toNat_natCast, Int.zero_mul, Int.zero_add, Int.add_zero, Nat.zero_add, Nat.add_zero, Nat.zero_mul, List.length_singleton, List.length_append, List.length_nil, List.length_cons, List.take_length, List.drop_zero, List.replicate_zero, List.take_nil, List.nil_append, Nat.reduceBEq, Nat.reduceMul, Nat.reduceLeDiff, eq_self, and_self, true_and, and_true, decide_true, decide_false, Bool.and_self, Bool.or_self, Bool.and_true, Bool.true_and, Bool.and_false, Bool.false_and, Bool.or_true, Bool.true_or, Bool.or_false, Bool.false_or, Bool.not_true, Bool.not_false, cond_true, cond_false]
          exact g
        · rw [decide_eq_false c1, decide_eq_false c2, Bool.or_false, cond_false] at g
          simp -implicitDefEqProofs (disch := omega) only [hs, hxs, hM, take_one, set_one, decide_eq_true, decide_eq_false, IntWalk.i64_in, beqT, beqF, bneT, bneF, nat_succ, ← Int.natCast_mul, ← Int.natCast_add, Int.toNat_natCast, Int.zero_mul, Int.zero_add, Int.add_zero, Nat.zero_add, Nat.add_zero, Nat.zero_mul, List.length_singleton, List.length_append, List.length_nil, List.length_cons, List.take_length, List.drop_zero, List.replicate_zero, List.take_nil, List.nil_append, Nat.reduceBEq, Nat.reduceMul, Nat.reduceLeDiff, eq_self, and_self, true_and, and_true, decide_true, decide_false, Bool.and_self, Bool.or_self, Bool.and_true, Bool.true_and, Bool.and_false, Bool.false_and, Bool.or_true, Bool.true_or, Bool.or_false, Bool.false_or, Bool.not_true, Bool.not_false, cond_true, cond_false]
          exact g
theorem run : ∀ args v new, R args = some (true, v, new) → ∃ fuel, regc [] (runFn Try.prog (orc [⟨72, cloProper.R⟩, ⟨115, cmp.R⟩]) hd Dr.std none fuel (bodyOf Try.f71) 41 [8, 9] args []) = some (v, new) := by
  intro args v new h
  unfold R at h
  split at h
  · rename_i p ws m xs mx b ff p2 ws2 m2
    simp only [Option.some.injEq, Prod.mk.injEq, Bool.and_eq_true, decide_eq_true_eq] at h
    obtain ⟨⟨⟨rfl, rfl, hmp, hb1, hb2, rfl, rfl, rfl⟩, hs, hx⟩, rfl, rfl⟩ := h
    have hs2 := hs
    obtain ⟨p, rfl, hp, hw, h0, v⟩ := wo.valid hs2
    have h64 := wo.pow_le hp.2
    have h1p := wo.pow_pos p
    have hx2 : ∀ x ∈ xs, -1000000 ≤ x ∧ x ≤ 1000000 := by simpa only [List.all_eq_true, Bool.and_eq_true, decide_eq_true_eq] using hx
    have hxp : xs.length = p := by omega
    obtain ⟨F, hF⟩ : ∃ F : Nat, F = 100 := ⟨100, rfl⟩
    refine ⟨F, ?_⟩
    have g := loop p ws2 xs b p2 F hs hx hxp (by omega) hb1 hb2  ws2.length 0 F (by omega) (by omega)
    rw [start]
    try simp -implicitDefEqProofs (disch := omega) only [take_one, set_one, decide_eq_true, decide_eq_false, IntWalk.i64_in, beqT, beqF, bneT, bneF, nat_succ, ← Int.natCast_mul, ← Int.natCast_add, Int.toNat_natCast, Int.zero_mul, Int.zero_add, Int.add_zero, Nat.zero_add, Nat.add_zero, Nat.zero_mul, List.length_singleton, List.length_append, List.length_nil, List.length_cons, List.take_length, List.drop_zero, List.replicate_zero, List.take_nil, List.nil_append, Nat.reduceBEq, Nat.reduceMul, Nat.reduceLeDiff, eq_self, and_self, true_and, and_true, decide_true, decide_false, Bool.and_self, Bool.or_self, Bool.and_true, Bool.true_and, Bool.and_false, Bool.false_and, Bool.or_true, Bool.true_or, Bool.or_false, Bool.false_or, Bool.not_true, Bool.not_false, cond_true, cond_false]
    exact congrArg (regc []) g
  · cases h
theorem ok : EntOk Try.prog ⟨71, R⟩ :=
  ent_okAG (ks := []) mixed (A := (orc [⟨72, cloProper.R⟩, ⟨115, cmp.R⟩])) (orc_ok (by simp only [List.mem_cons, List.not_mem_nil, or_false, forall_eq_or_imp, forall_eq]; exact ⟨cloProper.ok, cmp.ok⟩)) Try.func71 (by kernel_rfl) (by kernel_rfl) (n := 41) (ts := [8, 9]) (hd := hd) (dr := Dr.std) (cut := none) (by kernel_rfl) (by kernel_rfl) (by kernel_rfl) run
end worstProper

namespace worstM2
def R : List AVal → Option (Bool × AVal × List Blk)
  | [.agg [.int .i64 p, .ro (.ints .i64 ws) m 1], .ro (.ints .i64 xs) mx 1, .int .i64 b, .fn ff [.rom [.int .i64 i] 0, .rom [.int .i64 kk] 0]] => some (decide (m = ws.length ∧ mx = xs.length ∧ (mx : Int) = p ∧ 1 ≤ b ∧ b ≤ 1000 ∧ ff = 80 ∧ 0 ≤ i ∧ i < 6 ∧ 0 ≤ kk ∧ kk < 6) && (wo.sp p ws && (xs.all fun x => decide (-1000000 ≤ x) && decide (x ≤ 1000000))), .tup [.int .i64 (co.wst.sv (fun S => co.cm.sv ws xs b S xs.length) (co.m2.sp i.toNat kk.toNat) ws.length).1, .int .i64 (co.wst.sv (fun S => co.cm.sv ws xs b S xs.length) (co.m2.sp i.toNat kk.toNat) ws.length).2], [])
  | _ => none
def hd : Nat → Head := fun _ => ⟨[1, 2, 3, 4, 10, 11, 16, 17, 998], none⟩
noncomputable def L (f n : Nat) (s : State) := loopAt Try.prog (orc [⟨80, cloM2.R⟩, ⟨115, cmp.R⟩]) hd Dr.std 0 f (bodyOf Try.f71) 0 [true, true, false, true] (retK Try.prog [8, 9] 0 none) n s
theorem start (p b : Int) (ws xs : List Int) (i kk : Int) (f : Nat) :
  runFn Try.prog (orc [⟨80, cloM2.R⟩, ⟨115, cmp.R⟩]) hd Dr.std none f (bodyOf Try.f71) 41 [8, 9] [.agg [.int .i64 p, .ro (.ints .i64 ws) ws.length 1], .ro (.ints .i64 xs) xs.length 1, .int .i64 b, .fn 80 [.rom [.int .i64 i] 0, .rom [.int .i64 kk] 0]] []
  = (bif true && true then L f f (mkS (41 : Nat) [((1 : Nat), AVal.ro (Cont.ints IntKind.i64 xs) xs.length (1 : Nat)), ((2 : Nat), AVal.int IntKind.i64 b), ((3 : Nat), AVal.fn (80 : Nat) [AVal.rom [AVal.int IntKind.i64 i] (0 : Nat), AVal.rom [AVal.int IntKind.i64 kk] (0 : Nat)]), ((4 : Nat), AVal.ptr (0 : Nat) (0 : Nat) (0 : Nat)), ((10 : Nat), AVal.int IntKind.i64 (0 : Int)), ((11 : Nat), AVal.int IntKind.i64 (-1 : Int)), ((16 : Nat), AVal.int IntKind.i64 (↑ws.length : Int)), ((17 : Nat), AVal.int IntKind.i64 (0 : Int))] [{ c := BC.cells [AVal.int IntKind.i64 p, AVal.ro (Cont.ints IntKind.i64 ws) ws.length (1 : Nat)], ver := (0 : Nat) }]) else none) := by kernel_rfl
theorem round (p b mo be l k : Int) (ws xs : List Int) (i kk : Int) (f n : Nat) :
  L f (n + 1) (mkS 41 [(1, .ro (.ints .i64 xs) xs.length 1), (2, .int .i64 b), (3, .fn 80 [.rom [.int .i64 i] 0, .rom [.int .i64 kk] 0]), (4, .ptr 0 0 0), (10, .int .i64 mo), (11, .int .i64 be), (16, .int .i64 l), (17, .int .i64 k)] [⟨.cells [.int .i64 p, .ro (.ints .i64 ws) ws.length 1], 0⟩])
  = (bif decide (k < l) then bif decide ((0 : Int) ≤ k ∧ k < (64 : Int) ∧ (0 : Int) ≤ i ∧ i < (6 : Int) ∧ (0 : Int) ≤ kk ∧ kk < (6 : Int)) && (true && (true && true && (true && true && true)) || true && true) then bif !co.m2.sp i.toNat kk.toNat k.toNat then L f n (mkS (41 : Nat) [((1 : Nat), AVal.ro (Cont.ints IntKind.i64 xs) xs.length (1 : Nat)), ((2 : Nat), AVal.int IntKind.i64 b), ((3 : Nat), AVal.fn (80 : Nat) [AVal.rom [AVal.int IntKind.i64 i] (0 : Nat), AVal.rom [AVal.int IntKind.i64 kk] (0 : Nat)]), ((4 : Nat), AVal.ptr (0 : Nat) (0 : Nat) (0 : Nat)), ((10 : Nat), AVal.int IntKind.i64 mo), ((11 : Nat), AVal.int IntKind.i64 be), ((16 : Nat), AVal.int IntKind.i64 l), ((17 : Nat), AVal.int IntKind.i64 (IntKind.i64.wrap (k + (1 : Int))))] [{ c := BC.cells [AVal.int IntKind.i64 p, AVal.ro (Cont.ints IntKind.i64 ws) ws.length (1 : Nat)], ver := (0 : Nat) }]) else bif true && true && (true && true && true) then bif decide (ws.length = ws.length ∧ xs.length = xs.length ∧ (↑xs.length : Int) = p ∧ (1 : Int) ≤ b ∧ b ≤ (1000 : Int) ∧ (0 : Int) ≤ k ∧ k < (↑ws.length : Int)) && (wo.sp p ws && xs.all fun x => decide ((-1000000 : Int) ≤ x) && decide (x ≤ (1000000 : Int))) && (true && (true && true) && (true && (true && (true && true))) || true && true) then bif decide (be < (0 : Int)) then L f n (mkS (41 : Nat) [((1 : Nat), AVal.ro (Cont.ints IntKind.i64 xs) xs.length (1 : Nat)), ((2 : Nat), AVal.int IntKind.i64 b), ((3 : Nat), AVal.fn (80 : Nat) [AVal.rom [AVal.int IntKind.i64 i] (0 : Nat), AVal.rom [AVal.int IntKind.i64 kk] (0 : Nat)]), ((4 : Nat), AVal.ptr (0 : Nat) (0 : Nat) (0 : Nat)), ((10 : Nat), AVal.int IntKind.i64 (co.cm.sv ws xs b k.toNat xs.length)), ((11 : Nat), AVal.int IntKind.i64 k), ((16 : Nat), AVal.int IntKind.i64 l), ((17 : Nat), AVal.int IntKind.i64 (IntKind.i64.wrap (k + (1 : Int))))] [{ c := BC.cells [AVal.int IntKind.i64 p, AVal.ro (Cont.ints IntKind.i64 ws) ws.length (1 : Nat)], ver := (0 : Nat) }]) else bif decide (mo < co.cm.sv ws xs b k.toNat xs.length) then L f n (mkS (41 : Nat) [((1 : Nat), AVal.ro (Cont.ints IntKind.i64 xs) xs.length (1 : Nat)), ((2 : Nat), AVal.int IntKind.i64 b), ((3 : Nat), AVal.fn (80 : Nat) [AVal.rom [AVal.int IntKind.i64 i] (0 : Nat), AVal.rom [AVal.int IntKind.i64 kk] (0 : Nat)]), ((4 : Nat), AVal.ptr (0 : Nat) (0 : Nat) (0 : Nat)), ((10 : Nat), AVal.int IntKind.i64 (co.cm.sv ws xs b k.toNat xs.length)), ((11 : Nat), AVal.int IntKind.i64 k), ((16 : Nat), AVal.int IntKind.i64 l), ((17 : Nat), AVal.int IntKind.i64 (IntKind.i64.wrap (k + (1 : Int))))] [{ c := BC.cells [AVal.int IntKind.i64 p, AVal.ro (Cont.ints IntKind.i64 ws) ws.length (1 : Nat)], ver := (0 : Nat) }]) else L f n (mkS (41 : Nat) [((1 : Nat), AVal.ro (Cont.ints IntKind.i64 xs) xs.length (1 : Nat)), ((2 : Nat), AVal.int IntKind.i64 b), ((3 : Nat), AVal.fn (80 : Nat) [AVal.rom [AVal.int IntKind.i64 i] (0 : Nat), AVal.rom [AVal.int IntKind.i64 kk] (0 : Nat)]), ((4 : Nat), AVal.ptr (0 : Nat) (0 : Nat) (0 : Nat)), ((10 : Nat), AVal.int IntKind.i64 mo), ((11 : Nat), AVal.int IntKind.i64 be), ((16 : Nat), AVal.int IntKind.i64 l), ((17 : Nat), AVal.int IntKind.i64 (IntKind.i64.wrap (k + (1 : Int))))] [{ c := BC.cells [AVal.int IntKind.i64 p, AVal.ro (Cont.ints IntKind.i64 ws) ws.length (1 : Nat)], ver := (0 : Nat) }]) else none else none else none else some (AVal.tup [AVal.int IntKind.i64 mo, AVal.int IntKind.i64 be], [{ c := BC.cells [AVal.int IntKind.i64 p, AVal.ro (Cont.ints IntKind.i64 ws) ws.length (1 : Nat)], ver := (0 : Nat) }])) := by kernel_rfl
theorem loop (p : Nat) (ws xs : List Int) (b : Int) (i kk : Int) (f : Nat) (hs : wo.sp (p : Int) ws = true) (hxs : (xs.all fun x => decide (-1000000 ≤ x) && decide (x ≤ 1000000)) = true) (hxp : xs.length = p) (hl : ws.length ≤ 64) (h1 : 1 ≤ b) (h2 : b ≤ 1000) (hi : 0 ≤ i ∧ i < 6) (hk0 : 0 ≤ kk ∧ kk < 6) : ∀ (d k n : Nat), k + d = ws.length → d < n →
    L f n (mkS 41 [(1, .ro (.ints .i64 xs) xs.length 1), (2, .int .i64 b), (3, .fn 80 [.rom [.int .i64 i] 0, .rom [.int .i64 kk] 0]), (4, .ptr 0 0 0), (10, .int .i64 (co.wst.sv (fun S => co.cm.sv ws xs b S xs.length) (co.m2.sp i.toNat kk.toNat) k).1), (11, .int .i64 (co.wst.sv (fun S => co.cm.sv ws xs b S xs.length) (co.m2.sp i.toNat kk.toNat) k).2), (16, .int .i64 ((ws.length : Nat) : Int)), (17, .int .i64 ((k : Nat) : Int))] [⟨.cells [.int .i64 ((p : Nat) : Int), .ro (.ints .i64 ws) ws.length 1], 0⟩]) = some (.tup [.int .i64 (co.wst.sv (fun S => co.cm.sv ws xs b S xs.length) (co.m2.sp i.toNat kk.toNat) ws.length).1, .int .i64 (co.wst.sv (fun S => co.cm.sv ws xs b S xs.length) (co.m2.sp i.toNat kk.toNat) ws.length).2], [⟨.cells [.int .i64 ((p : Nat) : Int), .ro (.ints .i64 ws) ws.length 1], 0⟩]) := by
  intro d
  induction d with
  | zero =>
    intro k n hk hn
    obtain ⟨n, rfl⟩ : ∃ k, n = k + 1 := ⟨n - 1, by omega⟩
    obtain rfl : k = ws.length := by omega
    rw [round]
    simp -implicitDefEqProofs (disch := omega) only [take_one, set_one, decide_eq_true, decide_eq_false, IntWalk.i64_in, beqT, beqF, bneT, bneF, nat_succ, ← Int.natCast_mul, ← Int.natCast_add, Int.toNat_natCast, Int.zero_mul, Int.zero_add, Int.add_zero, Nat.zero_add, Nat.add_zero, Nat.zero_mul, List.length_singleton, List.length_append, List.length_nil, List.length_cons, List.take_length, List.drop_zero, List.replicate_zero, List.take_nil, List.nil_append, Nat.reduceBEq, Nat.reduceMul, Nat.reduceLeDiff, eq_self, and_self, true_and, and_true, decide_true, decide_false, Bool.and_self, Bool.or_self, Bool.and_true, Bool.true_and, Bool.and_false, Bool.false_and, Bool.or_true, Bool.true_or, Bool.or_false, Bool.false_or, Bool.not_true, Bool.not_false, cond_true, cond_false]
  | succ d ih =>
    intro k n hk hn
    obtain ⟨n, rfl⟩ : ∃ k, n = k + 1 := ⟨n - 1, by omega⟩
    have g := ih (k + 1) n (by omega) (by omega)
    rw [co.wst.sv] at g
    generalize co.wst.sv (fun S => co.cm.sv ws xs b S xs.length) (co.m2.sp i.toNat kk.toNat) k = r at g ⊢
    rw [round]
    cases hM : (co.m2.sp i.toNat kk.toNat) k with
    | false =>
      rw [hM, cond_false] at g
      simp -implicitDefEqProofs (disch := omega) only [hs, hxs, hM, take_one, set_one, decide_eq_true, decide_eq_false, IntWalk.i64_in, beqT, beqF, bneT, bneF, nat_succ, ← Int.natCast_mul, ← Int.natCast_add, Int.toNat_natCast, Int.zero_mul, Int.zero_add, Int.add_zero, Nat.zero_add, Nat.add_zero, Nat.zero_mul, List.length_singleton, List.length_append, List.length_nil, List.length_cons, List.take_length, List.drop_zero, List.replicate_zero, List.take_nil, List.nil_append, Nat.reduceBEq, Nat.reduceMul, Nat.reduceLeDiff, eq_self, and_self, true_and, and_true, decide_true, decide_false, Bool.and_self, Bool.or_self, Bool.and_true, Bool.true_and, Bool.and_false, Bool.false_and, Bool.or_true, Bool.true_or, Bool.or_false, Bool.false_or, Bool.not_true, Bool.not_false, cond_true, cond_false]
      exact g
    | true =>
      rw [hM, cond_true] at g
      by_cases c1 : r.2 < 0
      · rw [decide_eq_true c1, Bool.true_or, cond_true] at g
        simp -implicitDefEqProofs (disch := omega) only [hs, hxs, hM, take_one, set_one, decide_eq_true, decide_eq_false, IntWalk.i64_in, beqT, beqF, bneT, bneF, nat_succ, ← Int.natCast_mul, ← Int.natCast_add, Int.toNat_natCast, Int.zero_mul, Int.zero_add, Int.add_zero, Nat.zero_add, Nat.add_zero, Nat.zero_mul, List.length_singleton, List.length_append, List.length_nil, List.length_cons, List.take_length, List.drop_zero, List.replicate_zero, List.take_nil, List.nil_append, Nat.reduceBEq, Nat.reduceMul, Nat.reduceLeDiff, eq_self, and_self, true_and, and_true, decide_true, decide_false, Bool.and_self, Bool.or_self, Bool.and_true, Bool.true_and, Bool.and_false, Bool.false_and, Bool.or_true, Bool.true_or, Bool.or_false, Bool.false_or, Bool.not_true, Bool.not_false, cond_true, cond_false]
        exact g
      · by_cases c2 : r.1 < co.cm.sv ws xs b k xs.length
        · rw [decide_eq_true c2, Bool.or_true, cond_true] at g
          simp -implicitDefEqProofs (disch := omega) only [hs, hxs, hM, take_one, set_one, decide_eq_true, decide_eq_false, IntWalk.i64_in, beqT, beqF, bneT, bneF, nat_succ, ← Int.natCast_mul, ← Int.natCast_add, Int.toNat_natCast, Int.zero_mul, Int.zero_add, Int.add_zero, Nat.zero_add, Nat.add_zero, Nat.zero_mul, List.length_singleton, List.length_append, List.length_nil, List.length_cons, List.take_length, List.drop_zero, List.replicate_zero, List.take_nil, List.nil_append, Nat.reduceBEq, Nat.reduceMul, Nat.reduceLeDiff, eq_self, and_self, true_and, and_true, decide_true, decide_false, Bool.and_self, Bool.or_self, Bool.and_true, Bool.true_and, Bool.and_false, Bool.false_and, Bool.or_true, Bool.true_or, Bool.or_false, Bool.false_or, Bool.not_true, Bool.not_false, cond_true, cond_false]
          exact g
        · rw [decide_eq_false c1, decide_eq_false c2, Bool.or_false, cond_false] at g
          simp -implicitDefEqProofs (disch := omega) only [hs, hxs, hM, take_one, set_one, decide_eq_true, decide_eq_false, IntWalk.i64_in, beqT, beqF, bneT, bneF, nat_succ, ← Int.natCast_mul, ← Int.natCast_add, Int.toNat_natCast, Int.zero_mul, Int.zero_add, Int.add_zero, Nat.zero_add, Nat.add_zero, Nat.zero_mul, List.length_singleton, List.length_append, List.length_nil, List.length_cons, List.take_length, List.drop_zero, List.replicate_zero, List.take_nil, List.nil_append, Nat.reduceBEq, Nat.reduceMul, Nat.reduceLeDiff, eq_self, and_self, true_and, and_true, decide_true, decide_false, Bool.and_self, Bool.or_self, Bool.and_true, Bool.true_and, Bool.and_false, Bool.false_and, Bool.or_true, Bool.true_or, Bool.or_false, Bool.false_or, Bool.not_true, Bool.not_false, cond_true, cond_false]
          exact g
theorem run : ∀ args v new, R args = some (true, v, new) → ∃ fuel, regc [] (runFn Try.prog (orc [⟨80, cloM2.R⟩, ⟨115, cmp.R⟩]) hd Dr.std none fuel (bodyOf Try.f71) 41 [8, 9] args []) = some (v, new) := by
  intro args v new h
  unfold R at h
  split at h
  · rename_i p ws m xs mx b ff i kk
    simp only [Option.some.injEq, Prod.mk.injEq, Bool.and_eq_true, decide_eq_true_eq] at h
    obtain ⟨⟨⟨rfl, rfl, hmp, hb1, hb2, rfl, h3, h4, h5, h6⟩, hs, hx⟩, rfl, rfl⟩ := h
    have hs2 := hs
    obtain ⟨p, rfl, hp, hw, h0, v⟩ := wo.valid hs2
    have h64 := wo.pow_le hp.2
    have h1p := wo.pow_pos p
    have hx2 : ∀ x ∈ xs, -1000000 ≤ x ∧ x ≤ 1000000 := by simpa only [List.all_eq_true, Bool.and_eq_true, decide_eq_true_eq] using hx
    have hxp : xs.length = p := by omega
    obtain ⟨F, hF⟩ : ∃ F : Nat, F = 100 := ⟨100, rfl⟩
    refine ⟨F, ?_⟩
    have g := loop p ws xs b i kk F hs hx hxp (by omega) hb1 hb2 ⟨h3, h4⟩ ⟨h5, h6⟩ ws.length 0 F (by omega) (by omega)
    rw [start]
    try simp -implicitDefEqProofs (disch := omega) only [take_one, set_one, decide_eq_true, decide_eq_false, IntWalk.i64_in, beqT, beqF, bneT, bneF, nat_succ, ← Int.natCast_mul, ← Int.natCast_add, Int.toNat_natCast, Int.zero_mul, Int.zero_add, Int.add_zero, Nat.zero_add, Nat.add_zero, Nat.zero_mul, List.length_singleton, List.length_append, List.length_nil, List.length_cons, List.take_length, List.drop_zero, List.replicate_zero, List.take_nil, List.nil_append, Nat.reduceBEq, Nat.reduceMul, Nat.reduceLeDiff, eq_self, and_self, true_and, and_true, decide_true, decide_false, Bool.and_self, Bool.or_self, Bool.and_true, Bool.true_and, Bool.and_false, Bool.false_and, Bool.or_true, Bool.true_or, Bool.or_false, Bool.false_or, Bool.not_true, Bool.not_false, cond_true, cond_false]
    exact congrArg (regc []) g
  · cases h
theorem ok : EntOk Try.prog ⟨71, R⟩ :=
  ent_okAG (ks := []) mixed (A := (orc [⟨80, cloM2.R⟩, ⟨115, cmp.R⟩])) (orc_ok (by simp only [List.mem_cons, List.not_mem_nil, or_false, forall_eq_or_imp, forall_eq]; exact ⟨cloM2.ok, cmp.ok⟩)) Try.func71 (by kernel_rfl) (by kernel_rfl) (n := 41) (ts := [8, 9]) (hd := hd) (dr := Dr.std) (cut := none) (by kernel_rfl) (by kernel_rfl) (by kernel_rfl) run
end worstM2


namespace inCore
def R : List AVal → Option (Bool × AVal × List Blk)
  | [.agg [.int .i64 p, .ro (.ints .i64 ws) m 1], .ro (.ints .i64 xs) mx 1, .int .i64 b] => some (decide (m = ws.length ∧ mx = xs.length ∧ (mx : Int) = p ∧ 1 ≤ b ∧ b ≤ 1000) && (wo.sp p ws && (xs.all fun x => decide (-1000000 ≤ x) && decide (x ≤ 1000000))), .bool (co.core.sp ws xs b p.toNat), [])
  | _ => none
theorem go (p b : Int) (ws xs : List Int) :
  runFn Try.prog (orc [⟨71, worstTrue.R⟩, ⟨115, cmp.R⟩, ⟨73, wAllN.R⟩]) hd0 Dr.std none 0 (bodyOf Try.f66) 27 [6] [.agg [.int .i64 p, .ro (.ints .i64 ws) ws.length 1], .ro (.ints .i64 xs) xs.length 1, .int .i64 b] []
  = (bif true && true && (true && true && true) then bif decide (ws.length = ws.length ∧ xs.length = xs.length ∧ (↑xs.length : Int) = p ∧ (1 : Int) ≤ b ∧ b ≤ (1000 : Int) ∧ (114 : Nat) = (114 : FuncId)) && (wo.sp p ws && xs.all fun x => decide ((-1000000 : Int) ≤ x) && decide (x ≤ (1000000 : Int))) && (true && (true && true) && (true && (true && true)) || true && (true && true) && true) then bif decide ((co.wst.sv (fun S => co.cm.sv ws xs b S xs.length) co.tt.sp ws.length).1 ≤ (0 : Int)) then bif true && true && (true && true && true) then bif true && true && (true && true && true) then bif decide (ws.length = ws.length ∧ ws.length ≤ (64 : Nat) ∧ (1 : Nat) ≤ ws.length) && (true && (true && true) && true || true && true) then bif decide (ws.length = ws.length ∧ xs.length = xs.length ∧ (↑xs.length : Int) = p ∧ (1 : Int) ≤ b ∧ b ≤ (1000 : Int) ∧ (0 : Int) ≤ (↑ws.length : Int) - (1 : Int) ∧ (↑ws.length : Int) - (1 : Int) < (↑ws.length : Int)) && (wo.sp p ws && xs.all fun x => decide ((-1000000 : Int) ≤ x) && decide (x ≤ (1000000 : Int))) && (true && (true && true) && (true && (true && (true && true))) || true && true) then some (AVal.bool (co.cm.sv ws xs b ((↑ws.length : Int) - (1 : Int)).toNat xs.length == (0 : Int)), [{ c := BC.cells [AVal.int IntKind.i64 p, AVal.ro (Cont.ints IntKind.i64 ws) ws.length (1 : Nat)], ver := (0 : Nat) }]) else none else none else none else none else some (AVal.bool false, [{ c := BC.cells [AVal.int IntKind.i64 p, AVal.ro (Cont.ints IntKind.i64 ws) ws.length (1 : Nat)], ver := (0 : Nat) }]) else none else none) := by kernel_rfl
theorem run : ∀ args v new, R args = some (true, v, new) → ∃ fuel, regc [] (runFn Try.prog (orc [⟨71, worstTrue.R⟩, ⟨115, cmp.R⟩, ⟨73, wAllN.R⟩]) hd0 Dr.std none fuel (bodyOf Try.f66) 27 [6] args []) = some (v, new) := by
  intro args v new h
  unfold R at h
  split at h
  · rename_i p ws m xs mx b
    simp only [Option.some.injEq, Prod.mk.injEq, Bool.and_eq_true, decide_eq_true_eq] at h
    obtain ⟨⟨⟨rfl, rfl, hmp, hb1, hb2⟩, hs, hx⟩, rfl, rfl⟩ := h
    have hs2 := hs
    obtain ⟨p, rfl, hp, hw, h0, v⟩ := wo.valid hs2
    have h64 := wo.pow_le hp.2
    have h1p := wo.pow_pos p
    have hx2 : ∀ x ∈ xs, -1000000 ≤ x ∧ x ≤ 1000000 := by simpa only [List.all_eq_true, Bool.and_eq_true, decide_eq_true_eq] using hx
    have hxp : xs.length = p := by omega
    have e : (decide ((co.wst.sv (fun S => co.cm.sv ws xs b S xs.length) co.tt.sp ws.length).1 ≤ 0) && (co.cm.sv ws xs b (ws.length - 1) xs.length == 0)) = co.core.sp ws xs b p := by
      rw [hw, hxp]; exact co.core_wst ws xs b p
    have e2 : (((ws.length : Nat) : Int) - 1).toNat = ws.length - 1 := by omega
    refine ⟨0, ?_⟩
    rw [go, Int.toNat_natCast, ← e]
    cases hd : decide ((co.wst.sv (fun S => co.cm.sv ws xs b S xs.length) co.tt.sp ws.length).1 ≤ 0) with
    | false =>
      simp -implicitDefEqProofs (disch := omega) only [hs, hx, hd, e2, eq_self, take_one, set_one, decide_eq_true, decide_eq_false, IntWalk.i64_in, beqT, beqF, bneT, bneF, nat_succ, ← Int.natCast_mul, ← Int.natCast_add, Int.toNat_natCast, Int.zero_mul, Int.zero_add, Int.add_zero, Nat.zero_add, Nat.add_zero, Nat.zero_mul, List.length_singleton, List.length_append, List.length_nil, List.length_cons, List.take_length, List.drop_zero, List.replicate_zero, List.take_nil, List.nil_append, Nat.reduceBEq, Nat.reduceMul, Nat.reduceLeDiff, eq_self, and_self, true_and, and_true, decide_true, decide_false, Bool.and_self, Bool.or_self, Bool.and_true, Bool.true_and, Bool.and_false, Bool.false_and, Bool.or_true, Bool.true_or, Bool.or_false, Bool.false_or, Bool.not_true, Bool.not_false, cond_true, cond_false]
      rfl
    | true =>
      simp -implicitDefEqProofs (disch := omega) only [hs, hx, hd, e2, eq_self, take_one, set_one, decide_eq_true, decide_eq_false, IntWalk.i64_in, beqT, beqF, bneT, bneF, nat_succ, ← Int.natCast_mul, ← Int.natCast_add, Int.toNat_natCast, Int.zero_mul, Int.zero_add, Int.add_zero, Nat.zero_add, Nat.add_zero, Nat.zero_mul, List.length_singleton, List.length_append, List.length_nil, List.length_cons, List.take_length, List.drop_zero, List.replicate_zero, List.take_nil, List.nil_append, Nat.reduceBEq, Nat.reduceMul, Nat.reduceLeDiff, eq_self, and_self, true_and, and_true, decide_true, decide_false, Bool.and_self, Bool.or_self, Bool.and_true, Bool.true_and, Bool.and_false, Bool.false_and, Bool.or_true, Bool.true_or, Bool.or_false, Bool.false_or, Bool.not_true, Bool.not_false, cond_true, cond_false]
      rfl
  · cases h
theorem ok : EntOk Try.prog ⟨66, R⟩ :=
  ent_okAG (ks := []) mixed (A := (orc [⟨71, worstTrue.R⟩, ⟨115, cmp.R⟩, ⟨73, wAllN.R⟩])) (orc_ok (by simp only [List.mem_cons, List.not_mem_nil, or_false, forall_eq_or_imp, forall_eq]; exact ⟨worstTrue.ok, cmp.ok, wAllN.ok⟩)) Try.func66 (by kernel_rfl) (by kernel_rfl) (n := 27) (ts := [6]) (hd := hd0) (dr := Dr.std) (cut := none) (by kernel_rfl) (by kernel_rfl) (by kernel_rfl) run
end inCore

namespace areShares
def R : List AVal → Option (Bool × AVal × List Blk)
  | [.agg [.int .i64 p, .ro (.ints .i64 ws) m 1], .ro (.ints .i64 xs) mx 1, .int .i64 b] => some (decide (m = ws.length ∧ mx = xs.length ∧ (mx : Int) = p ∧ 1 ≤ b ∧ b ≤ 1000) && (wo.sp p ws && (xs.all fun x => decide (-1000000 ≤ x) && decide (x ≤ 1000000))), .bool true, [])
  | _ => none
theorem go (p b : Int) (ws xs : List Int) :
  runFn Try.prog (orc [⟨62, iValidWorths.R⟩, ⟨89, areMany.R⟩, ⟨74, within.R⟩]) hd0 Dr.std none 0 (bodyOf Try.f65) 21 [6] [.agg [.int .i64 p, .ro (.ints .i64 ws) ws.length 1], .ro (.ints .i64 xs) xs.length 1, .int .i64 b] []
  = (bif true && true && (true && true && true) then bif decide (ws.length = ws.length) && wo.sp p ws && (true && (true && true) && true || true && true) then bif true && true then bif true && true then bif decide (xs.length ≤ xs.length ∧ xs.length ≤ (4611686018427387904 : Nat)) && (true && (true && (true && true)) || true && true) then bif decide (p ≤ (↑xs.length : Int)) && decide ((↑xs.length : Int) ≤ p) && (List.take xs.length xs).all fun x => decide ((-1000000 : Int) ≤ x) && decide (x ≤ (1000000 : Int)) then bif true && (true && true || true && true) then some (AVal.bool (decide ((1 : Int) ≤ b) && decide (b ≤ (1000 : Int))), [{ c := BC.cells [AVal.int IntKind.i64 p, AVal.ro (Cont.ints IntKind.i64 ws) ws.length (1 : Nat)], ver := (0 : Nat) }]) else none else some (AVal.bool false, [{ c := BC.cells [AVal.int IntKind.i64 p, AVal.ro (Cont.ints IntKind.i64 ws) ws.length (1 : Nat)], ver := (0 : Nat) }]) else none else none else none else none else none) := by kernel_rfl
theorem run : ∀ args v new, R args = some (true, v, new) → ∃ fuel, regc [] (runFn Try.prog (orc [⟨62, iValidWorths.R⟩, ⟨89, areMany.R⟩, ⟨74, within.R⟩]) hd0 Dr.std none fuel (bodyOf Try.f65) 21 [6] args []) = some (v, new) := by
  intro args v new h
  unfold R at h
  split at h
  · rename_i p ws m xs mx b
    simp only [Option.some.injEq, Prod.mk.injEq, Bool.and_eq_true, decide_eq_true_eq] at h
    obtain ⟨⟨⟨rfl, rfl, hmp, hb1, hb2⟩, hs, hx⟩, rfl, rfl⟩ := h
    have hs2 := hs
    obtain ⟨p, rfl, hp, hw, h0, v⟩ := wo.valid hs2
    have h64 := wo.pow_le hp.2
    have h1p := wo.pow_pos p
    have hx2 : ∀ x ∈ xs, -1000000 ≤ x ∧ x ≤ 1000000 := by simpa only [List.all_eq_true, Bool.and_eq_true, decide_eq_true_eq] using hx
    have hxp : xs.length = p := by omega
    refine ⟨0, ?_⟩
    rw [go]
    simp -implicitDefEqProofs (disch := omega) only [hs, hx, take_one, set_one, decide_eq_true, decide_eq_false, IntWalk.i64_in, beqT, beqF, bneT, bneF, nat_succ, ← Int.natCast_mul, ← Int.natCast_add, Int.toNat_natCast, Int.zero_mul, Int.zero_add, Int.add_zero, Nat.zero_add, Nat.add_zero, Nat.zero_mul, List.length_singleton, List.length_append, List.length_nil, List.length_cons, List.take_length, List.drop_zero, List.replicate_zero, List.take_nil, List.nil_append, Nat.reduceBEq, Nat.reduceMul, Nat.reduceLeDiff, eq_self, and_self, true_and, and_true, decide_true, decide_false, Bool.and_self, Bool.or_self, Bool.and_true, Bool.true_and, Bool.and_false, Bool.false_and, Bool.or_true, Bool.true_or, Bool.or_false, Bool.false_or, Bool.not_true, Bool.not_false, cond_true, cond_false]
    rfl
  · cases h
theorem ok : EntOk Try.prog ⟨65, R⟩ :=
  ent_okAG (ks := []) mixed (A := (orc [⟨62, iValidWorths.R⟩, ⟨89, areMany.R⟩, ⟨74, within.R⟩])) (orc_ok (by simp only [List.mem_cons, List.not_mem_nil, or_false, forall_eq_or_imp, forall_eq]; exact ⟨iValidWorths.ok, areMany.ok, within.ok⟩)) Try.func65 (by kernel_rfl) (by kernel_rfl) (n := 21) (ts := [6]) (hd := hd0) (dr := Dr.std) (cut := none) (by kernel_rfl) (by kernel_rfl) (by kernel_rfl) run
end areShares

namespace iInCore
def R : List AVal → Option (Bool × AVal × List Blk)
  | [.agg [.int .i64 p, .ro (.ints .i64 ws) m 1], .ro (.ints .i64 xs) mx 1, .int .i64 b] => some (decide (m = ws.length ∧ mx = xs.length ∧ (mx : Int) = p ∧ 1 ≤ b ∧ b ≤ 1000) && (wo.sp p ws && (xs.all fun x => decide (-1000000 ≤ x) && decide (x ≤ 1000000))), .tup [.bool (co.core.sp ws xs b p.toNat), .bool true], [])
  | _ => none
theorem go (p b : Int) (ws xs : List Int) :
  runFn Try.prog (orc [⟨65, areShares.R⟩, ⟨66, inCore.R⟩]) hd0 Dr.std none 0 (bodyOf Try.f18) 17 [6, 7] [.agg [.int .i64 p, .ro (.ints .i64 ws) ws.length 1], .ro (.ints .i64 xs) xs.length 1, .int .i64 b] []
  = (bif true && true && (true && true && true) then bif decide (ws.length = ws.length ∧ xs.length = xs.length ∧ (↑xs.length : Int) = p ∧ (1 : Int) ≤ b ∧ b ≤ (1000 : Int)) && (wo.sp p ws && xs.all fun x => decide ((-1000000 : Int) ≤ x) && decide (x ≤ (1000000 : Int))) && (true && (true && true) && (true && (true && true)) || true && true) then bif true && true && (true && true && true) then bif decide (ws.length = ws.length ∧ xs.length = xs.length ∧ (↑xs.length : Int) = p ∧ (1 : Int) ≤ b ∧ b ≤ (1000 : Int)) && (wo.sp p ws && xs.all fun x => decide ((-1000000 : Int) ≤ x) && decide (x ≤ (1000000 : Int))) && (true && (true && true) && (true && (true && true)) || true && true) then some (AVal.tup [AVal.bool (co.core.sp ws xs b p.toNat), AVal.bool true], [{ c := BC.cells [AVal.int IntKind.i64 p, AVal.ro (Cont.ints IntKind.i64 ws) ws.length (1 : Nat)], ver := (0 : Nat) }]) else none else none else none else none) := by kernel_rfl
theorem run : ∀ args v new, R args = some (true, v, new) → ∃ fuel, regc [] (runFn Try.prog (orc [⟨65, areShares.R⟩, ⟨66, inCore.R⟩]) hd0 Dr.std none fuel (bodyOf Try.f18) 17 [6, 7] args []) = some (v, new) := by
  intro args v new h
  unfold R at h
  split at h
  · rename_i p ws m xs mx b
    simp only [Option.some.injEq, Prod.mk.injEq, Bool.and_eq_true, decide_eq_true_eq] at h
    obtain ⟨⟨⟨rfl, rfl, hmp, hb1, hb2⟩, hs, hx⟩, rfl, rfl⟩ := h
    have hs2 := hs
    obtain ⟨p, rfl, hp, hw, h0, v⟩ := wo.valid hs2
    have h64 := wo.pow_le hp.2
    have h1p := wo.pow_pos p
    have hx2 : ∀ x ∈ xs, -1000000 ≤ x ∧ x ≤ 1000000 := by simpa only [List.all_eq_true, Bool.and_eq_true, decide_eq_true_eq] using hx
    have hxp : xs.length = p := by omega
    refine ⟨0, ?_⟩
    rw [go]
    simp -implicitDefEqProofs (disch := omega) only [hs, hx, take_one, set_one, decide_eq_true, decide_eq_false, IntWalk.i64_in, beqT, beqF, bneT, bneF, nat_succ, ← Int.natCast_mul, ← Int.natCast_add, Int.toNat_natCast, Int.zero_mul, Int.zero_add, Int.add_zero, Nat.zero_add, Nat.add_zero, Nat.zero_mul, List.length_singleton, List.length_append, List.length_nil, List.length_cons, List.take_length, List.drop_zero, List.replicate_zero, List.take_nil, List.nil_append, Nat.reduceBEq, Nat.reduceMul, Nat.reduceLeDiff, eq_self, and_self, true_and, and_true, decide_true, decide_false, Bool.and_self, Bool.or_self, Bool.and_true, Bool.true_and, Bool.and_false, Bool.false_and, Bool.or_true, Bool.true_or, Bool.or_false, Bool.false_or, Bool.not_true, Bool.not_false, cond_true, cond_false]
    rfl
  · cases h
theorem ok : EntOk Try.prog ⟨18, R⟩ :=
  ent_okAG (ks := []) mixed (A := (orc [⟨65, areShares.R⟩, ⟨66, inCore.R⟩])) (orc_ok (by simp only [List.mem_cons, List.not_mem_nil, or_false, forall_eq_or_imp, forall_eq]; exact ⟨areShares.ok, inCore.ok⟩)) Try.func18 (by kernel_rfl) (by kernel_rfl) (n := 17) (ts := [6, 7]) (hd := hd0) (dr := Dr.std) (cut := none) (by kernel_rfl) (by kernel_rfl) (by kernel_rfl) run
end iInCore

namespace iWorstComplaint
def R : List AVal → Option (Bool × AVal × List Blk)
  | [.agg [.int .i64 p, .ro (.ints .i64 ws) m 1], .ro (.ints .i64 xs) mx 1, .int .i64 b] => some (decide (m = ws.length ∧ mx = xs.length ∧ (mx : Int) = p ∧ 1 ≤ b ∧ b ≤ 1000 ∧ 2 ≤ p) && (wo.sp p ws && (xs.all fun x => decide (-1000000 ≤ x) && decide (x ≤ 1000000))), .tup [.int .i64 (co.wst.sv (fun S => co.cm.sv ws xs b S xs.length) (co.pr.sp ws.length) ws.length).1, .int .i64 (co.wst.sv (fun S => co.cm.sv ws xs b S xs.length) (co.pr.sp ws.length) ws.length).2, .bool true], [])
  | _ => none
theorem go (p b : Int) (ws xs : List Int) :
  runFn Try.prog (orc [⟨65, areShares.R⟩, ⟨71, worstProper.R⟩]) hd0 Dr.std none 0 (bodyOf Try.f20) 31 [6, 7, 8] [.agg [.int .i64 p, .ro (.ints .i64 ws) ws.length 1], .ro (.ints .i64 xs) xs.length 1, .int .i64 b] []
  = (bif true && true && (true && true && true) then bif decide (ws.length = ws.length ∧ xs.length = xs.length ∧ (↑xs.length : Int) = p ∧ (1 : Int) ≤ b ∧ b ≤ (1000 : Int)) && (wo.sp p ws && xs.all fun x => decide ((-1000000 : Int) ≤ x) && decide (x ≤ (1000000 : Int))) && (true && (true && true) && (true && (true && true)) || true && true) then bif true && true then bif decide (p < (2 : Int)) then some (AVal.tup [AVal.int IntKind.i64 (0 : Int), AVal.int IntKind.i64 (0 : Int), AVal.bool false], [{ c := BC.cells [AVal.int IntKind.i64 p, AVal.ro (Cont.ints IntKind.i64 ws) ws.length (1 : Nat)], ver := (0 : Nat) }]) else bif true && true && (true && true && true) then bif decide (ws.length = ws.length ∧ xs.length = xs.length ∧ (↑xs.length : Int) = p ∧ (1 : Int) ≤ b ∧ b ≤ (1000 : Int) ∧ (72 : Nat) = (72 : FuncId) ∧ ws = ws ∧ ws.length = ws.length) && (wo.sp p ws && xs.all fun x => decide ((-1000000 : Int) ≤ x) && decide (x ≤ (1000000 : Int))) && (true && (true && true) && (true && (true && false)) || true && (true && true) && true) then some (AVal.tup [AVal.int IntKind.i64 (co.wst.sv (fun S => co.cm.sv ws xs b S xs.length) (co.pr.sp ws.length) ws.length).1, AVal.int IntKind.i64 (co.wst.sv (fun S => co.cm.sv ws xs b S xs.length) (co.pr.sp ws.length) ws.length).2, AVal.bool true], [{ c := BC.cells [AVal.int IntKind.i64 p, AVal.ro (Cont.ints IntKind.i64 ws) ws.length (1 : Nat)], ver := (0 : Nat) }]) else none else none else none else none else none) := by kernel_rfl
theorem run : ∀ args v new, R args = some (true, v, new) → ∃ fuel, regc [] (runFn Try.prog (orc [⟨65, areShares.R⟩, ⟨71, worstProper.R⟩]) hd0 Dr.std none fuel (bodyOf Try.f20) 31 [6, 7, 8] args []) = some (v, new) := by
  intro args v new h
  unfold R at h
  split at h
  · rename_i p ws m xs mx b
    simp only [Option.some.injEq, Prod.mk.injEq, Bool.and_eq_true, decide_eq_true_eq] at h
    obtain ⟨⟨⟨rfl, rfl, hmp, hb1, hb2, h2⟩, hs, hx⟩, rfl, rfl⟩ := h
    have hs2 := hs
    obtain ⟨p, rfl, hp, hw, h0, v⟩ := wo.valid hs2
    have h64 := wo.pow_le hp.2
    have h1p := wo.pow_pos p
    have hx2 : ∀ x ∈ xs, -1000000 ≤ x ∧ x ≤ 1000000 := by simpa only [List.all_eq_true, Bool.and_eq_true, decide_eq_true_eq] using hx
    have hxp : xs.length = p := by omega
    refine ⟨0, ?_⟩
    rw [go]
    simp -implicitDefEqProofs (disch := omega) only [hs, hx, eq_self, take_one, set_one, decide_eq_true, decide_eq_false, IntWalk.i64_in, beqT, beqF, bneT, bneF, nat_succ, ← Int.natCast_mul, ← Int.natCast_add, Int.toNat_natCast, Int.zero_mul, Int.zero_add, Int.add_zero, Nat.zero_add, Nat.add_zero, Nat.zero_mul, List.length_singleton, List.length_append, List.length_nil, List.length_cons, List.take_length, List.drop_zero, List.replicate_zero, List.take_nil, List.nil_append, Nat.reduceBEq, Nat.reduceMul, Nat.reduceLeDiff, eq_self, and_self, true_and, and_true, decide_true, decide_false, Bool.and_self, Bool.or_self, Bool.and_true, Bool.true_and, Bool.and_false, Bool.false_and, Bool.or_true, Bool.true_or, Bool.or_false, Bool.false_or, Bool.not_true, Bool.not_false, cond_true, cond_false]
    rfl
  · cases h
theorem ok : EntOk Try.prog ⟨20, R⟩ :=
  ent_okAG (ks := []) mixed (A := (orc [⟨65, areShares.R⟩, ⟨71, worstProper.R⟩])) (orc_ok (by simp only [List.mem_cons, List.not_mem_nil, or_false, forall_eq_or_imp, forall_eq]; exact ⟨areShares.ok, worstProper.ok⟩)) Try.func20 (by kernel_rfl) (by kernel_rfl) (n := 31) (ts := [6, 7, 8]) (hd := hd0) (dr := Dr.std) (cut := none) (by kernel_rfl) (by kernel_rfl) (by kernel_rfl) run
end iWorstComplaint

namespace l03Complaint
def R : List AVal → Option (Bool × AVal × List Blk)
  | [.rom [.int .i64 p, .ro (.ints .i64 ws) m 1] 0, .ro (.ints .i64 xs) mx 1, .int .i64 b, .int .i64 s] => some (decide (m = ws.length ∧ mx = xs.length ∧ (mx : Int) = p ∧ 1 ≤ b ∧ b ≤ 1000 ∧ 0 ≤ s ∧ s < ws.length) && (wo.sp p ws && (xs.all fun x => decide (-1000000 ≤ x) && decide (x ≤ 1000000))), .int .i64 (co.cm.sv ws xs b s.toNat xs.length), [])
  | _ => none
def hd : Nat → Head := fun _ => ⟨[1, 3, 9, 21, 22], none⟩
noncomputable def L (f n : Nat) (s : State) := loopAt Try.prog (orc [⟨60, l03In.R⟩]) hd Dr.std 0 f (bodyOf Try.f118) 0 [true, true, false, true] (retK Try.prog [8] 0 none) n s
theorem start (p b s : Int) (ws xs : List Int) (f : Nat) :
  runFn Try.prog (orc [⟨60, l03In.R⟩]) hd Dr.std none f (bodyOf Try.f118) 36 [8] [.rom [.int .i64 p, .ro (.ints .i64 ws) ws.length 1] 0, .ro (.ints .i64 xs) xs.length 1, .int .i64 b, .int .i64 s] []
  = (bif true && (decide ((0 : Int) ≤ s) && decide (s < (↑ws.length : Int))) then bif decide (s.toNat < ws.length) then L f f (mkS (36 : Nat) [((1 : Nat), AVal.ro (Cont.ints IntKind.i64 xs) xs.length (1 : Nat)), ((3 : Nat), AVal.int IntKind.i64 s), ((9 : Nat), AVal.int IntKind.i64 (IntKind.i64.wrap (gz ws s.toNat * b))), ((21 : Nat), AVal.int IntKind.i64 (↑xs.length : Int)), ((22 : Nat), AVal.int IntKind.i64 (0 : Int))] []) else none else none) := by kernel_rfl
theorem round (xs : List Int) (s o l k : Int) (f n : Nat) :
  L f (n + 1) (mkS 36 [(1, .ro (.ints .i64 xs) xs.length 1), (3, .int .i64 s), (9, .int .i64 o), (21, .int .i64 l), (22, .int .i64 k)] [])
  = (bif decide (k < l) then bif decide ((0 : Int) ≤ s ∧ s < (64 : Int) ∧ (0 : Int) ≤ k ∧ k < (6 : Int)) && (true && (true && true) || true && true) then bif !wo.off.sp s.toNat k.toNat then bif true && (decide ((0 : Int) ≤ k) && decide (k < (↑xs.length : Int))) then bif decide (k.toNat < xs.length) then L f n (mkS (36 : Nat) [((1 : Nat), AVal.ro (Cont.ints IntKind.i64 xs) xs.length (1 : Nat)), ((3 : Nat), AVal.int IntKind.i64 s), ((9 : Nat), AVal.int IntKind.i64 (IntKind.i64.wrap (o - gz xs k.toNat))), ((21 : Nat), AVal.int IntKind.i64 l), ((22 : Nat), AVal.int IntKind.i64 (IntKind.i64.wrap (k + (1 : Int))))] []) else none else none else L f n (mkS (36 : Nat) [((1 : Nat), AVal.ro (Cont.ints IntKind.i64 xs) xs.length (1 : Nat)), ((3 : Nat), AVal.int IntKind.i64 s), ((9 : Nat), AVal.int IntKind.i64 o), ((21 : Nat), AVal.int IntKind.i64 l), ((22 : Nat), AVal.int IntKind.i64 (IntKind.i64.wrap (k + (1 : Int))))] []) else none else some (AVal.int IntKind.i64 o, [])) := by kernel_rfl
theorem loop (ws xs : List Int) (b : Int) (s f : Nat) (hl : xs.length ≤ 6) (hs : s < 64) (v : ∀ x ∈ ws, -10000 ≤ x ∧ x ≤ 10000) (hx : ∀ x ∈ xs, -1000000 ≤ x ∧ x ≤ 1000000) (h1 : 1 ≤ b) (h2 : b ≤ 1000) : ∀ (d k n : Nat), k + d = xs.length → d < n →
    L f n (mkS 36 [(1, .ro (.ints .i64 xs) xs.length 1), (3, .int .i64 ((s : Nat) : Int)), (9, .int .i64 (co.cm.sv ws xs b s k)), (21, .int .i64 ((xs.length : Nat) : Int)), (22, .int .i64 ((k : Nat) : Int))] []) = some (.int .i64 (co.cm.sv ws xs b s xs.length), []) := by
  intro d
  induction d with
  | zero =>
    intro k n hk hn
    obtain ⟨n, rfl⟩ : ∃ k, n = k + 1 := ⟨n - 1, by omega⟩
    obtain rfl : k = xs.length := by omega
    rw [round]
    simp -implicitDefEqProofs (disch := omega) only [take_one, set_one, decide_eq_true, decide_eq_false, IntWalk.i64_in, beqT, beqF, bneT, bneF, nat_succ, ← Int.natCast_mul, ← Int.natCast_add, Int.toNat_natCast, Int.zero_mul, Int.zero_add, Int.add_zero, Nat.zero_add, Nat.add_zero, Nat.zero_mul, List.length_singleton, List.length_append, List.length_nil, List.length_cons, List.take_length, List.drop_zero, List.replicate_zero, List.take_nil, List.nil_append, Nat.reduceBEq, Nat.reduceMul, Nat.reduceLeDiff, eq_self, and_self, true_and, and_true, decide_true, decide_false, Bool.and_self, Bool.or_self, Bool.and_true, Bool.true_and, Bool.and_false, Bool.false_and, Bool.or_true, Bool.true_or, Bool.or_false, Bool.false_or, Bool.not_true, Bool.not_false, cond_true, cond_false]
  | succ d ih =>
    intro k n hk hn
    obtain ⟨n, rfl⟩ : ∃ k, n = k + 1 := ⟨n - 1, by omega⟩
    have g := ih (k + 1) n (by omega) (by omega)
    have b1 := co.cm_big (S := s) v hx h1 h2 (k + 1) (by omega)
    rw [co.cm_step] at b1 g
    rw [round]
    cases ho : wo.off.sp s k with
    | false =>
      rw [ho, cond_false] at g b1
      simp -implicitDefEqProofs (disch := omega) only [ho, take_one, set_one, decide_eq_true, decide_eq_false, IntWalk.i64_in, beqT, beqF, bneT, bneF, nat_succ, ← Int.natCast_mul, ← Int.natCast_add, Int.toNat_natCast, Int.zero_mul, Int.zero_add, Int.add_zero, Nat.zero_add, Nat.add_zero, Nat.zero_mul, List.length_singleton, List.length_append, List.length_nil, List.length_cons, List.take_length, List.drop_zero, List.replicate_zero, List.take_nil, List.nil_append, Nat.reduceBEq, Nat.reduceMul, Nat.reduceLeDiff, eq_self, and_self, true_and, and_true, decide_true, decide_false, Bool.and_self, Bool.or_self, Bool.and_true, Bool.true_and, Bool.and_false, Bool.false_and, Bool.or_true, Bool.true_or, Bool.or_false, Bool.false_or, Bool.not_true, Bool.not_false, cond_true, cond_false]
      exact g
    | true =>
      rw [ho, cond_true] at g
      simp -implicitDefEqProofs (disch := omega) only [ho, take_one, set_one, decide_eq_true, decide_eq_false, IntWalk.i64_in, beqT, beqF, bneT, bneF, nat_succ, ← Int.natCast_mul, ← Int.natCast_add, Int.toNat_natCast, Int.zero_mul, Int.zero_add, Int.add_zero, Nat.zero_add, Nat.add_zero, Nat.zero_mul, List.length_singleton, List.length_append, List.length_nil, List.length_cons, List.take_length, List.drop_zero, List.replicate_zero, List.take_nil, List.nil_append, Nat.reduceBEq, Nat.reduceMul, Nat.reduceLeDiff, eq_self, and_self, true_and, and_true, decide_true, decide_false, Bool.and_self, Bool.or_self, Bool.and_true, Bool.true_and, Bool.and_false, Bool.false_and, Bool.or_true, Bool.true_or, Bool.or_false, Bool.false_or, Bool.not_true, Bool.not_false, cond_true, cond_false]
      exact g
theorem run : ∀ args v new, R args = some (true, v, new) → ∃ fuel, runFn Try.prog (orc [⟨60, l03In.R⟩]) hd Dr.std none fuel (bodyOf Try.f118) 36 [8] args [] = some (v, new) := by
  intro args v new h
  unfold R at h
  split at h
  · rename_i p ws m xs mx b s
    simp only [Option.some.injEq, Prod.mk.injEq, Bool.and_eq_true, decide_eq_true_eq] at h
    obtain ⟨⟨⟨rfl, rfl, hmp, hb1, hb2, h3, h4⟩, hs, hx⟩, rfl, rfl⟩ := h
    have hs2 := hs
    obtain ⟨p, rfl, hp, hw, h0, v⟩ := wo.valid hs2
    have h64 := wo.pow_le hp.2
    have h1p := wo.pow_pos p
    have hx2 : ∀ x ∈ xs, -1000000 ≤ x ∧ x ≤ 1000000 := by simpa only [List.all_eq_true, Bool.and_eq_true, decide_eq_true_eq] using hx
    have hxp : xs.length = p := by omega
    obtain ⟨s, rfl⟩ : ∃ q : Nat, s = q := ⟨s.toNat, by omega⟩
    have b0 := co.cm_big (S := s) v hx2 hb1 hb2 0 (by omega)
    rw [co.cm_start] at b0
    refine ⟨xs.length + 1, ?_⟩
    have g := loop ws xs b s (xs.length + 1) (by omega) (by omega) v hx2 hb1 hb2 xs.length 0 (xs.length + 1) (by omega) (by omega)
    rw [co.cm_start] at g
    rw [start]
    simp -implicitDefEqProofs (disch := omega) only [take_one, set_one, decide_eq_true, decide_eq_false, IntWalk.i64_in, beqT, beqF, bneT, bneF, nat_succ, ← Int.natCast_mul, ← Int.natCast_add, Int.toNat_natCast, Int.zero_mul, Int.zero_add, Int.add_zero, Nat.zero_add, Nat.add_zero, Nat.zero_mul, List.length_singleton, List.length_append, List.length_nil, List.length_cons, List.take_length, List.drop_zero, List.replicate_zero, List.take_nil, List.nil_append, Nat.reduceBEq, Nat.reduceMul, Nat.reduceLeDiff, eq_self, and_self, true_and, and_true, decide_true, decide_false, Bool.and_self, Bool.or_self, Bool.and_true, Bool.true_and, Bool.and_false, Bool.false_and, Bool.or_true, Bool.true_or, Bool.or_false, Bool.false_or, Bool.not_true, Bool.not_false, cond_true, cond_false]
    exact g
  · cases h
theorem ok : EntOk Try.prog ⟨118, R⟩ :=
  ent_okA mixed (A := (orc [⟨60, l03In.R⟩])) (orc_ok (by simp only [List.mem_cons, List.not_mem_nil, or_false, forall_eq_or_imp, forall_eq]; exact l03In.ok)) Try.func118 (by kernel_rfl) (by kernel_rfl) (n := 36) (ts := [8]) (hd := hd) (dr := Dr.std) (cut := none) (by kernel_rfl) (by kernel_rfl) (by kernel_rfl) run
end l03Complaint

namespace l03Core
def R : List AVal → Option (Bool × AVal × List Blk)
  | [.rom [.int .i64 p, .ro (.ints .i64 ws) m 1] 0, .ro (.ints .i64 xs) mx 1, .int .i64 b] => some (decide (m = ws.length ∧ mx = xs.length ∧ (mx : Int) = p ∧ 1 ≤ b ∧ b ≤ 1000) && (wo.sp p ws && (xs.all fun x => decide (-1000000 ≤ x) && decide (x ≤ 1000000))), .bool (co.core.sp ws xs b p.toNat), [])
  | _ => none
def hd : Nat → Head := fun _ => ⟨[0, 1, 2, 6, 13, 14], none⟩
noncomputable def L (f n : Nat) (s : State) := loopAt Try.prog (orc [⟨118, l03Complaint.R⟩]) hd Dr.std 0 f (bodyOf Try.f78) 0 [true, false, true] (retK Try.prog [6] 0 none) n s
theorem start (p b : Int) (ws xs : List Int) (f : Nat) :
  runFn Try.prog (orc [⟨118, l03Complaint.R⟩]) hd Dr.std none f (bodyOf Try.f78) 39 [6] [.rom [.int .i64 p, .ro (.ints .i64 ws) ws.length 1] 0, .ro (.ints .i64 xs) xs.length 1, .int .i64 b] []
  = (L f f (mkS (39 : Nat) [((0 : Nat), AVal.rom [AVal.int IntKind.i64 p, AVal.ro (Cont.ints IntKind.i64 ws) ws.length (1 : Nat)] (0 : Nat)), ((1 : Nat), AVal.ro (Cont.ints IntKind.i64 xs) xs.length (1 : Nat)), ((2 : Nat), AVal.int IntKind.i64 b), ((6 : Nat), AVal.bool false), ((13 : Nat), AVal.int IntKind.i64 (↑ws.length : Int)), ((14 : Nat), AVal.int IntKind.i64 (0 : Int))] [])) := by kernel_rfl
theorem round (p b l k : Int) (ws xs : List Int) (f n : Nat) :
  L f (n + 1) (mkS 39 [(0, .rom [.int .i64 p, .ro (.ints .i64 ws) ws.length 1] 0), (1, .ro (.ints .i64 xs) xs.length 1), (2, .int .i64 b), (6, .bool false), (13, .int .i64 l), (14, .int .i64 k)] [])
  = (bif decide (k < l) then bif decide (ws.length = ws.length ∧ xs.length = xs.length ∧ (↑xs.length : Int) = p ∧ (1 : Int) ≤ b ∧ b ≤ (1000 : Int) ∧ (0 : Int) ≤ k ∧ k < (↑ws.length : Int)) && (wo.sp p ws && xs.all fun x => decide ((-1000000 : Int) ≤ x) && decide (x ≤ (1000000 : Int))) && (true && (true && true) && (true && (true && (true && true))) || true && true) then bif decide ((0 : Int) < co.cm.sv ws xs b k.toNat xs.length) then some (AVal.bool false, []) else bif k == IntKind.i64.wrap ((↑ws.length : Int) - (1 : Int)) then bif co.cm.sv ws xs b k.toNat xs.length != (0 : Int) then some (AVal.bool false, []) else L f n (mkS (39 : Nat) [((0 : Nat), AVal.rom [AVal.int IntKind.i64 p, AVal.ro (Cont.ints IntKind.i64 ws) ws.length (1 : Nat)] (0 : Nat)), ((1 : Nat), AVal.ro (Cont.ints IntKind.i64 xs) xs.length (1 : Nat)), ((2 : Nat), AVal.int IntKind.i64 b), ((6 : Nat), AVal.bool false), ((13 : Nat), AVal.int IntKind.i64 l), ((14 : Nat), AVal.int IntKind.i64 (IntKind.i64.wrap (k + (1 : Int))))] []) else L f n (mkS (39 : Nat) [((0 : Nat), AVal.rom [AVal.int IntKind.i64 p, AVal.ro (Cont.ints IntKind.i64 ws) ws.length (1 : Nat)] (0 : Nat)), ((1 : Nat), AVal.ro (Cont.ints IntKind.i64 xs) xs.length (1 : Nat)), ((2 : Nat), AVal.int IntKind.i64 b), ((6 : Nat), AVal.bool false), ((13 : Nat), AVal.int IntKind.i64 l), ((14 : Nat), AVal.int IntKind.i64 (IntKind.i64.wrap (k + (1 : Int))))] []) else none else some (AVal.bool true, [])) := by kernel_rfl
theorem loop (p : Nat) (ws xs : List Int) (b : Int) (f : Nat) (hs : wo.sp (p : Int) ws = true) (hxs : (xs.all fun x => decide (-1000000 ≤ x) && decide (x ≤ 1000000)) = true) (hxp : xs.length = p) (hw : ws.length = 2 ^ p) (hl : ws.length ≤ 64) (h1 : 1 ≤ b) (h2 : b ≤ 1000) : ∀ (d k n : Nat), k + d = ws.length → d < n →
    L f n (mkS 39 [(0, .rom [.int .i64 ((p : Nat) : Int), .ro (.ints .i64 ws) ws.length 1] 0), (1, .ro (.ints .i64 xs) xs.length 1), (2, .int .i64 b), (6, .bool false), (13, .int .i64 ((ws.length : Nat) : Int)), (14, .int .i64 ((k : Nat) : Int))] []) = some (.bool (fs.al.sp (co.c1.sp ws xs b p) d k), []) := by
  have hpp := wo.pow_pos p
  intro d
  induction d with
  | zero =>
    intro k n hk hn
    obtain ⟨n, rfl⟩ : ∃ k, n = k + 1 := ⟨n - 1, by omega⟩
    obtain rfl : k = ws.length := by omega
    rw [round, fs.al.sp]
    simp -implicitDefEqProofs (disch := omega) only [take_one, set_one, decide_eq_true, decide_eq_false, IntWalk.i64_in, beqT, beqF, bneT, bneF, nat_succ, ← Int.natCast_mul, ← Int.natCast_add, Int.toNat_natCast, Int.zero_mul, Int.zero_add, Int.add_zero, Nat.zero_add, Nat.add_zero, Nat.zero_mul, List.length_singleton, List.length_append, List.length_nil, List.length_cons, List.take_length, List.drop_zero, List.replicate_zero, List.take_nil, List.nil_append, Nat.reduceBEq, Nat.reduceMul, Nat.reduceLeDiff, eq_self, and_self, true_and, and_true, decide_true, decide_false, Bool.and_self, Bool.or_self, Bool.and_true, Bool.true_and, Bool.and_false, Bool.false_and, Bool.or_true, Bool.true_or, Bool.or_false, Bool.false_or, Bool.not_true, Bool.not_false, cond_true, cond_false]
  | succ d ih =>
    intro k n hk hn
    obtain ⟨n, rfl⟩ : ∃ k, n = k + 1 := ⟨n - 1, by omega⟩
    have g := ih (k + 1) n (by omega) (by omega)
    have hc : co.c1.sp ws xs b p k = !(decide (0 < co.cm.sv ws xs b k xs.length) || (decide (k = ws.length - 1) && !decide (co.cm.sv ws xs b k xs.length = 0))) := by rw [co.c1.sp, hxp, hw]
    rw [round, fs.al.sp, hc]
    by_cases c1 : 0 < co.cm.sv ws xs b k xs.length
    · simp -implicitDefEqProofs (disch := omega) only [hs, hxs, take_one, set_one, decide_eq_true, decide_eq_false, IntWalk.i64_in, beqT, beqF, bneT, bneF, nat_succ, ← Int.natCast_mul, ← Int.natCast_add, Int.toNat_natCast, Int.zero_mul, Int.zero_add, Int.add_zero, Nat.zero_add, Nat.add_zero, Nat.zero_mul, List.length_singleton, List.length_append, List.length_nil, List.length_cons, List.take_length, List.drop_zero, List.replicate_zero, List.take_nil, List.nil_append, Nat.reduceBEq, Nat.reduceMul, Nat.reduceLeDiff, eq_self, and_self, true_and, and_true, decide_true, decide_false, Bool.and_self, Bool.or_self, Bool.and_true, Bool.true_and, Bool.and_false, Bool.false_and, Bool.or_true, Bool.true_or, Bool.or_false, Bool.false_or, Bool.not_true, Bool.not_false, cond_true, cond_false]
    · by_cases c2 : k = ws.length - 1
      · by_cases c3 : co.cm.sv ws xs b k xs.length = 0
        · simp -implicitDefEqProofs (disch := omega) only [hs, hxs, take_one, set_one, decide_eq_true, decide_eq_false, IntWalk.i64_in, beqT, beqF, bneT, bneF, nat_succ, ← Int.natCast_mul, ← Int.natCast_add, Int.toNat_natCast, Int.zero_mul, Int.zero_add, Int.add_zero, Nat.zero_add, Nat.add_zero, Nat.zero_mul, List.length_singleton, List.length_append, List.length_nil, List.length_cons, List.take_length, List.drop_zero, List.replicate_zero, List.take_nil, List.nil_append, Nat.reduceBEq, Nat.reduceMul, Nat.reduceLeDiff, eq_self, and_self, true_and, and_true, decide_true, decide_false, Bool.and_self, Bool.or_self, Bool.and_true, Bool.true_and, Bool.and_false, Bool.false_and, Bool.or_true, Bool.true_or, Bool.or_false, Bool.false_or, Bool.not_true, Bool.not_false, cond_true, cond_false]
          exact g
        · simp -implicitDefEqProofs (disch := omega) only [hs, hxs, take_one, set_one, decide_eq_true, decide_eq_false, IntWalk.i64_in, beqT, beqF, bneT, bneF, nat_succ, ← Int.natCast_mul, ← Int.natCast_add, Int.toNat_natCast, Int.zero_mul, Int.zero_add, Int.add_zero, Nat.zero_add, Nat.add_zero, Nat.zero_mul, List.length_singleton, List.length_append, List.length_nil, List.length_cons, List.take_length, List.drop_zero, List.replicate_zero, List.take_nil, List.nil_append, Nat.reduceBEq, Nat.reduceMul, Nat.reduceLeDiff, eq_self, and_self, true_and, and_true, decide_true, decide_false, Bool.and_self, Bool.or_self, Bool.and_true, Bool.true_and, Bool.and_false, Bool.false_and, Bool.or_true, Bool.true_or, Bool.or_false, Bool.false_or, Bool.not_true, Bool.not_false, cond_true, cond_false]
      · simp -implicitDefEqProofs (disch := omega) only [hs, hxs, take_one, set_one, decide_eq_true, decide_eq_false, IntWalk.i64_in, beqT, beqF, bneT, bneF, nat_succ, ← Int.natCast_mul, ← Int.natCast_add, Int.toNat_natCast, Int.zero_mul, Int.zero_add, Int.add_zero, Nat.zero_add, Nat.add_zero, Nat.zero_mul, List.length_singleton, List.length_append, List.length_nil, List.length_cons, List.take_length, List.drop_zero, List.replicate_zero, List.take_nil, List.nil_append, Nat.reduceBEq, Nat.reduceMul, Nat.reduceLeDiff, eq_self, and_self, true_and, and_true, decide_true, decide_false, Bool.and_self, Bool.or_self, Bool.and_true, Bool.true_and, Bool.and_false, Bool.false_and, Bool.or_true, Bool.true_or, Bool.or_false, Bool.false_or, Bool.not_true, Bool.not_false, cond_true, cond_false]
        exact g
theorem run : ∀ args v new, R args = some (true, v, new) → ∃ fuel, runFn Try.prog (orc [⟨118, l03Complaint.R⟩]) hd Dr.std none fuel (bodyOf Try.f78) 39 [6] args [] = some (v, new) := by
  intro args v new h
  unfold R at h
  split at h
  · rename_i p ws m xs mx b
    simp only [Option.some.injEq, Prod.mk.injEq, Bool.and_eq_true, decide_eq_true_eq] at h
    obtain ⟨⟨⟨rfl, rfl, hmp, hb1, hb2⟩, hs, hx⟩, rfl, rfl⟩ := h
    have hs2 := hs
    obtain ⟨p, rfl, hp, hw, h0, v⟩ := wo.valid hs2
    have h64 := wo.pow_le hp.2
    have h1p := wo.pow_pos p
    have hx2 : ∀ x ∈ xs, -1000000 ≤ x ∧ x ≤ 1000000 := by simpa only [List.all_eq_true, Bool.and_eq_true, decide_eq_true_eq] using hx
    have hxp : xs.length = p := by omega
    refine ⟨ws.length + 1, ?_⟩
    have g := loop p ws xs b (ws.length + 1) hs hx hxp hw (by omega) hb1 hb2 ws.length 0 (ws.length + 1) (by omega) (by omega)
    have e := co.core_c1 ws xs b p
    rw [← hw] at e
    rw [e] at g
    rw [start]
    exact g
  · cases h
theorem ok : EntOk Try.prog ⟨78, R⟩ :=
  ent_okA mixed (A := (orc [⟨118, l03Complaint.R⟩])) (orc_ok (by simp only [List.mem_cons, List.not_mem_nil, or_false, forall_eq_or_imp, forall_eq]; exact l03Complaint.ok)) Try.func78 (by kernel_rfl) (by kernel_rfl) (n := 39) (ts := [6]) (hd := hd) (dr := Dr.std) (cut := none) (by kernel_rfl) (by kernel_rfl) (by kernel_rfl) run
end l03Core

namespace sIsConvex
def R : List AVal → Option (Bool × AVal × List Blk)
  | [.agg [.int .i64 p, .ro (.ints .i64 ws) m 1]] => some (decide (m = ws.length) && wo.sp p ws, .tup [.bool (fs.al.sp (fun a => fs.al.sp (co.conv.sp ws a) ws.length 0) ws.length 0), .bool true], [])
  | _ => none
def hd : Nat → Head := fun i => bif eqN i 0 then ⟨[1, 2, 3, 10, 11, 998], none⟩ else ⟨[1, 2, 3, 4, 10, 11, 16, 17, 998], none⟩
noncomputable def L0 (f n : Nat) (s : State) := loopAt Try.prog (orc [⟨59, l03Is.R⟩]) hd Dr.std 0 f (bodyOf Try.f13) 0 [true, true, false, true] (retK Try.prog [2, 3] 0 none) n s
noncomputable def L2 (f n n2 : Nat) (s : State) := loopAt Try.prog (orc [⟨59, l03Is.R⟩]) hd Dr.std 0 f (bodyAt (bodyOf Try.f13) [true, true, false, true]) (curAt (bodyOf Try.f13) 0 [true, true, false, true]) [true, true, false, true, true] (iterK (normE 0 (hd (curAt (bodyOf Try.f13) 0 [true, true, false, true]))) (L0 f n) (contAt Try.prog (orc [⟨59, l03Is.R⟩]) hd Dr.std 0 f (bodyOf Try.f13) 0 [true, true, false, true] (retK Try.prog [2, 3] 0 none))) n2 s
theorem start (p : Int) (ws : List Int) (f : Nat) :
  runFn Try.prog (orc [⟨59, l03Is.R⟩]) hd Dr.std none f (bodyOf Try.f13) 49 [2, 3] [.agg [.int .i64 p, .ro (.ints .i64 ws) ws.length 1]] []
  = (bif decide (ws.length = ws.length) && wo.sp p ws && (false && true || true && true) then bif true && true then L0 f f (mkS (49 : Nat) [((1 : Nat), AVal.ptr (0 : Nat) (0 : Nat) (0 : Nat)), ((2 : Nat), AVal.bool false), ((3 : Nat), AVal.bool false), ((10 : Nat), AVal.int IntKind.i64 (↑ws.length : Int)), ((11 : Nat), AVal.int IntKind.i64 (0 : Int))] [{ c := BC.cells [AVal.int IntKind.i64 p, AVal.ro (Cont.ints IntKind.i64 ws) ws.length (1 : Nat)], ver := (0 : Nat) }]) else none else none) := by kernel_rfl
theorem round0 (p l a : Int) (ws : List Int) (f n : Nat) :
  L0 f (n + 1) (mkS 49 [(1, .ptr 0 0 0), (2, .bool false), (3, .bool false), (10, .int .i64 l), (11, .int .i64 a)] [⟨.cells [.int .i64 p, .ro (.ints .i64 ws) ws.length 1], 0⟩])
  = (bif decide (a < l) then bif true && true then L2 f n f (mkS (49 : Nat) [((1 : Nat), AVal.ptr (0 : Nat) (0 : Nat) (0 : Nat)), ((2 : Nat), AVal.bool false), ((3 : Nat), AVal.bool false), ((4 : Nat), AVal.int IntKind.i64 a), ((10 : Nat), AVal.int IntKind.i64 l), ((11 : Nat), AVal.int IntKind.i64 a), ((16 : Nat), AVal.int IntKind.i64 (↑ws.length : Int)), ((17 : Nat), AVal.int IntKind.i64 (0 : Int))] [{ c := BC.cells [AVal.int IntKind.i64 p, AVal.ro (Cont.ints IntKind.i64 ws) ws.length (1 : Nat)], ver := (0 : Nat) }]) else none else some (AVal.tup [AVal.bool true, AVal.bool true], [{ c := BC.cells [AVal.int IntKind.i64 p, AVal.ro (Cont.ints IntKind.i64 ws) ws.length (1 : Nat)], ver := (0 : Nat) }])) := by kernel_rfl
theorem round2 (p l a k b : Int) (ws : List Int) (f n n2 : Nat) :
  L2 f n (n2 + 1) (mkS 49 [(1, .ptr 0 0 0), (2, .bool false), (3, .bool false), (4, .int .i64 a), (10, .int .i64 l), (11, .int .i64 a), (16, .int .i64 k), (17, .int .i64 b)] [⟨.cells [.int .i64 p, .ro (.ints .i64 ws) ws.length 1], 0⟩])
  = (bif decide (b < k) then bif true && true then bif true && (decide ((0 : Int) ≤ a) && decide (a < (↑ws.length : Int))) then bif decide (a.toNat < ws.length) then bif true && true then bif true && (decide ((0 : Int) ≤ b) && decide (b < (↑ws.length : Int))) then bif decide (b.toNat < ws.length) then bif true && true then bif true && (decide ((0 : Int) ≤ ior.sv IntKind.i64 a b) && decide (ior.sv IntKind.i64 a b < (↑ws.length : Int))) then bif decide ((ior.sv IntKind.i64 a b).toNat < ws.length) then bif true && true then bif true && (decide ((0 : Int) ≤ iand.sv IntKind.i64 a b) && decide (iand.sv IntKind.i64 a b < (↑ws.length : Int))) then bif decide ((iand.sv IntKind.i64 a b).toNat < ws.length) then bif decide (IntKind.i64.wrap (gz ws (ior.sv IntKind.i64 a b).toNat + gz ws (iand.sv IntKind.i64 a b).toNat) < IntKind.i64.wrap (gz ws a.toNat + gz ws b.toNat)) then some (AVal.tup [AVal.bool false, AVal.bool true], [{ c := BC.cells [AVal.int IntKind.i64 p, AVal.ro (Cont.ints IntKind.i64 ws) ws.length (1 : Nat)], ver := (0 : Nat) }]) else L2 f n n2 (mkS (49 : Nat) [((1 : Nat), AVal.ptr (0 : Nat) (0 : Nat) (0 : Nat)), ((2 : Nat), AVal.bool false), ((3 : Nat), AVal.bool false), ((4 : Nat), AVal.int IntKind.i64 a), ((10 : Nat), AVal.int IntKind.i64 l), ((11 : Nat), AVal.int IntKind.i64 a), ((16 : Nat), AVal.int IntKind.i64 k), ((17 : Nat), AVal.int IntKind.i64 (IntKind.i64.wrap (b + (1 : Int))))] [{ c := BC.cells [AVal.int IntKind.i64 p, AVal.ro (Cont.ints IntKind.i64 ws) ws.length (1 : Nat)], ver := (0 : Nat) }]) else none else none else none else none else none else none else none else none else none else none else none else none else L0 f n (mkS (49 : Nat) [((1 : Nat), AVal.ptr (0 : Nat) (0 : Nat) (0 : Nat)), ((2 : Nat), AVal.bool false), ((3 : Nat), AVal.bool false), ((10 : Nat), AVal.int IntKind.i64 l), ((11 : Nat), AVal.int IntKind.i64 (IntKind.i64.wrap (a + (1 : Int))))] [{ c := BC.cells [AVal.int IntKind.i64 p, AVal.ro (Cont.ints IntKind.i64 ws) ws.length (1 : Nat)], ver := (0 : Nat) }])) := by kernel_rfl
theorem loop2 (p a : Nat) (ws : List Int) (f n : Nat) (hp : 1 ≤ p ∧ p ≤ 6) (hw : ws.length = 2 ^ p) (v : ∀ x ∈ ws, -10000 ≤ x ∧ x ≤ 10000) (ha : a < ws.length) (hl : ws.length ≤ 64) : ∀ (d b n2 : Nat), b + d = ws.length → d < n2 →
    L2 f n n2 (mkS 49 [(1, .ptr 0 0 0), (2, .bool false), (3, .bool false), (4, .int .i64 ((a : Nat) : Int)), (10, .int .i64 ((ws.length : Nat) : Int)), (11, .int .i64 ((a : Nat) : Int)), (16, .int .i64 ((ws.length : Nat) : Int)), (17, .int .i64 ((b : Nat) : Int))] [⟨.cells [.int .i64 ((p : Nat) : Int), .ro (.ints .i64 ws) ws.length 1], 0⟩]) = bif fs.al.sp (co.conv.sp ws a) d b then L0 f n (mkS 49 [(1, .ptr 0 0 0), (2, .bool false), (3, .bool false), (10, .int .i64 ((ws.length : Nat) : Int)), (11, .int .i64 ((a + 1 : Nat) : Int))] [⟨.cells [.int .i64 ((p : Nat) : Int), .ro (.ints .i64 ws) ws.length 1], 0⟩]) else some (.tup [.bool false, .bool true], [⟨.cells [.int .i64 ((p : Nat) : Int), .ro (.ints .i64 ws) ws.length 1], 0⟩]) := by
  intro d
  induction d with
  | zero =>
    intro b n2 hb hn
    obtain ⟨n2, rfl⟩ : ∃ k, n2 = k + 1 := ⟨n2 - 1, by omega⟩
    obtain rfl : b = ws.length := by omega
    rw [round2, fs.al.sp]
    simp -implicitDefEqProofs (disch := omega) only [take_one, set_one, decide_eq_true, decide_eq_false, IntWalk.i64_in, beqT, beqF, bneT, bneF, nat_succ, ← Int.natCast_mul, ← Int.natCast_add, Int.toNat_natCast, Int.zero_mul, Int.zero_add, Int.add_zero, Nat.zero_add, Nat.add_zero, Nat.zero_mul, List.length_singleton, List.length_append, List.length_nil, List.length_cons, List.take_length, List.drop_zero, List.replicate_zero, List.take_nil, List.nil_append, Nat.reduceBEq, Nat.reduceMul, Nat.reduceLeDiff, eq_self, and_self, true_and, and_true, decide_true, decide_false, Bool.and_self, Bool.or_self, Bool.and_true, Bool.true_and, Bool.and_false, Bool.false_and, Bool.or_true, Bool.true_or, Bool.or_false, Bool.false_or, Bool.not_true, Bool.not_false, cond_true, cond_false]
  | succ d ih =>
    intro b n2 hb hn
    obtain ⟨n2, rfl⟩ : ∃ k, n2 = k + 1 := ⟨n2 - 1, by omega⟩
    have g := ih (b + 1) n2 (by omega) (by omega)
    have s1 := co.ior_nat a (by omega) b (by omega)
    have s2 := vo.iand_nat a (by omega) b (by omega)
    have o1 : a ||| b < ws.length := by rw [hw]; exact Nat.or_lt_two_pow (by omega) (by omega)
    have o2 : a &&& b < ws.length := co.and_lt b (by omega)
    have b1 := wo.gz_in v a
    have b2 := wo.gz_in v b
    have b3 := wo.gz_in v (a ||| b)
    have b4 := wo.gz_in v (a &&& b)
    rw [round2, fs.al.sp, co.conv.sp]
    by_cases c : gz ws a + gz ws b ≤ gz ws (a ||| b) + gz ws (a &&& b)
    · simp -implicitDefEqProofs (disch := omega) only [s1, s2, take_one, set_one, decide_eq_true, decide_eq_false, IntWalk.i64_in, beqT, beqF, bneT, bneF, nat_succ, ← Int.natCast_mul, ← Int.natCast_add, Int.toNat_natCast, Int.zero_mul, Int.zero_add, Int.add_zero, Nat.zero_add, Nat.add_zero, Nat.zero_mul, List.length_singleton, List.length_append, List.length_nil, List.length_cons, List.take_length, List.drop_zero, List.replicate_zero, List.take_nil, List.nil_append, Nat.reduceBEq, Nat.reduceMul, Nat.reduceLeDiff, eq_self, and_self, true_and, and_true, decide_true, decide_false, Bool.and_self, Bool.or_self, Bool.and_true, Bool.true_and, Bool.and_false, Bool.false_and, Bool.or_true, Bool.true_or, Bool.or_false, Bool.false_or, Bool.not_true, Bool.not_false, cond_true, cond_false]
      exact g
    · simp -implicitDefEqProofs (disch := omega) only [s1, s2, take_one, set_one, decide_eq_true, decide_eq_false, IntWalk.i64_in, beqT, beqF, bneT, bneF, nat_succ, ← Int.natCast_mul, ← Int.natCast_add, Int.toNat_natCast, Int.zero_mul, Int.zero_add, Int.add_zero, Nat.zero_add, Nat.add_zero, Nat.zero_mul, List.length_singleton, List.length_append, List.length_nil, List.length_cons, List.take_length, List.drop_zero, List.replicate_zero, List.take_nil, List.nil_append, Nat.reduceBEq, Nat.reduceMul, Nat.reduceLeDiff, eq_self, and_self, true_and, and_true, decide_true, decide_false, Bool.and_self, Bool.or_self, Bool.and_true, Bool.true_and, Bool.and_false, Bool.false_and, Bool.or_true, Bool.true_or, Bool.or_false, Bool.false_or, Bool.not_true, Bool.not_false, cond_true, cond_false]
theorem loop0 (p : Nat) (ws : List Int) (f : Nat) (hp : 1 ≤ p ∧ p ≤ 6) (hw : ws.length = 2 ^ p) (v : ∀ x ∈ ws, -10000 ≤ x ∧ x ≤ 10000) (hl : ws.length ≤ 64) (hf : 64 < f) : ∀ (d a n : Nat), a + d = ws.length → d < n →
    L0 f n (mkS 49 [(1, .ptr 0 0 0), (2, .bool false), (3, .bool false), (10, .int .i64 ((ws.length : Nat) : Int)), (11, .int .i64 ((a : Nat) : Int))] [⟨.cells [.int .i64 ((p : Nat) : Int), .ro (.ints .i64 ws) ws.length 1], 0⟩]) = some (.tup [.bool (fs.al.sp (fun a => fs.al.sp (co.conv.sp ws a) ws.length 0) d a), .bool true], [⟨.cells [.int .i64 ((p : Nat) : Int), .ro (.ints .i64 ws) ws.length 1], 0⟩]) := by
  intro d
  induction d with
  | zero =>
    intro a n ha hn
    obtain ⟨n, rfl⟩ : ∃ k, n = k + 1 := ⟨n - 1, by omega⟩
    obtain rfl : a = ws.length := by omega
    rw [round0, fs.al.sp]
    simp -implicitDefEqProofs (disch := omega) only [take_one, set_one, decide_eq_true, decide_eq_false, IntWalk.i64_in, beqT, beqF, bneT, bneF, nat_succ, ← Int.natCast_mul, ← Int.natCast_add, Int.toNat_natCast, Int.zero_mul, Int.zero_add, Int.add_zero, Nat.zero_add, Nat.add_zero, Nat.zero_mul, List.length_singleton, List.length_append, List.length_nil, List.length_cons, List.take_length, List.drop_zero, List.replicate_zero, List.take_nil, List.nil_append, Nat.reduceBEq, Nat.reduceMul, Nat.reduceLeDiff, eq_self, and_self, true_and, and_true, decide_true, decide_false, Bool.and_self, Bool.or_self, Bool.and_true, Bool.true_and, Bool.and_false, Bool.false_and, Bool.or_true, Bool.true_or, Bool.or_false, Bool.false_or, Bool.not_true, Bool.not_false, cond_true, cond_false]
  | succ d ih =>
    intro a n ha hn
    obtain ⟨n, rfl⟩ : ∃ k, n = k + 1 := ⟨n - 1, by omega⟩
    have g := ih (a + 1) n (by omega) (by omega)
    have g0 := loop2 p a ws f n hp hw v (by omega) hl (ws.length) 0 f (by omega) (by omega)
    rw [round0, fs.al.sp]
    simp -implicitDefEqProofs (disch := omega) only [take_one, set_one, decide_eq_true, decide_eq_false, IntWalk.i64_in, beqT, beqF, bneT, bneF, nat_succ, ← Int.natCast_mul, ← Int.natCast_add, Int.toNat_natCast, Int.zero_mul, Int.zero_add, Int.add_zero, Nat.zero_add, Nat.add_zero, Nat.zero_mul, List.length_singleton, List.length_append, List.length_nil, List.length_cons, List.take_length, List.drop_zero, List.replicate_zero, List.take_nil, List.nil_append, Nat.reduceBEq, Nat.reduceMul, Nat.reduceLeDiff, eq_self, and_self, true_and, and_true, decide_true, decide_false, Bool.and_self, Bool.or_self, Bool.and_true, Bool.true_and, Bool.and_false, Bool.false_and, Bool.or_true, Bool.true_or, Bool.or_false, Bool.false_or, Bool.not_true, Bool.not_false, cond_true, cond_false]
    refine g0.trans ?_
    cases he : fs.al.sp (co.conv.sp ws a) (ws.length) 0 with
    | false => rfl
    | true => exact g
theorem run : ∀ args v new, R args = some (true, v, new) → ∃ fuel, regc [] (runFn Try.prog (orc [⟨59, l03Is.R⟩]) hd Dr.std none fuel (bodyOf Try.f13) 49 [2, 3] args []) = some (v, new) := by
  intro args v new h
  unfold R at h
  split at h
  · rename_i p ws m
    simp only [Option.some.injEq, Prod.mk.injEq, Bool.and_eq_true, decide_eq_true_eq] at h
    obtain ⟨⟨rfl, hs⟩, rfl, rfl⟩ := h
    have hs2 := hs
    obtain ⟨p, rfl, hp, hw, h0, v⟩ := wo.valid hs2
    have h64 := wo.pow_le hp.2
    have h1p := wo.pow_pos p
    obtain ⟨F, hF⟩ : ∃ F : Nat, F = 100 := ⟨100, rfl⟩
    refine ⟨F, ?_⟩
    have g := loop0 p ws F hp hw v (by omega) (by omega) ws.length 0 F (by omega) (by omega)
    rw [start]
    simp -implicitDefEqProofs (disch := omega) only [hs, take_one, set_one, decide_eq_true, decide_eq_false, IntWalk.i64_in, beqT, beqF, bneT, bneF, nat_succ, ← Int.natCast_mul, ← Int.natCast_add, Int.toNat_natCast, Int.zero_mul, Int.zero_add, Int.add_zero, Nat.zero_add, Nat.add_zero, Nat.zero_mul, List.length_singleton, List.length_append, List.length_nil, List.length_cons, List.take_length, List.drop_zero, List.replicate_zero, List.take_nil, List.nil_append, Nat.reduceBEq, Nat.reduceMul, Nat.reduceLeDiff, eq_self, and_self, true_and, and_true, decide_true, decide_false, Bool.and_self, Bool.or_self, Bool.and_true, Bool.true_and, Bool.and_false, Bool.false_and, Bool.or_true, Bool.true_or, Bool.or_false, Bool.false_or, Bool.not_true, Bool.not_false, cond_true, cond_false]
    exact congrArg (regc []) g
  · cases h
theorem ok : EntOk Try.prog ⟨13, R⟩ :=
  ent_okAG (ks := []) mixed (A := (orc [⟨59, l03Is.R⟩])) (orc_ok (by simp only [List.mem_cons, List.not_mem_nil, or_false, forall_eq_or_imp, forall_eq]; exact l03Is.ok)) Try.func13 (by kernel_rfl) (by kernel_rfl) (n := 49) (ts := [2, 3]) (hd := hd) (dr := Dr.std) (cut := none) (by kernel_rfl) (by kernel_rfl) (by kernel_rfl) run
end sIsConvex

namespace sIsJoining
def R : List AVal → Option (Bool × AVal × List Blk)
  | [.agg [.int .i64 p, .ro (.ints .i64 ws) m 1]] => some (decide (m = ws.length) && wo.sp p ws, .tup [.bool (fs.al.sp (fun a => fs.al.sp (co.join.sp ws a) ws.length 0) ws.length 0), .bool true], [])
  | _ => none
def hd : Nat → Head := fun i => bif eqN i 0 then ⟨[1, 2, 3, 10, 11, 998], none⟩ else ⟨[1, 2, 3, 4, 10, 11, 16, 17, 998], none⟩
noncomputable def L0 (f n : Nat) (s : State) := loopAt Try.prog (orc [⟨59, l03Is.R⟩]) hd Dr.std 0 f (bodyOf Try.f14) 0 [true, true, false, true] (retK Try.prog [2, 3] 0 none) n s
noncomputable def L2 (f n n2 : Nat) (s : State) := loopAt Try.prog (orc [⟨59, l03Is.R⟩]) hd Dr.std 0 f (bodyAt (bodyOf Try.f14) [true, true, false, true]) (curAt (bodyOf Try.f14) 0 [true, true, false, true]) [true, true, false, true, true] (iterK (normE 0 (hd (curAt (bodyOf Try.f14) 0 [true, true, false, true]))) (L0 f n) (contAt Try.prog (orc [⟨59, l03Is.R⟩]) hd Dr.std 0 f (bodyOf Try.f14) 0 [true, true, false, true] (retK Try.prog [2, 3] 0 none))) n2 s
theorem start (p : Int) (ws : List Int) (f : Nat) :
  runFn Try.prog (orc [⟨59, l03Is.R⟩]) hd Dr.std none f (bodyOf Try.f14) 47 [2, 3] [.agg [.int .i64 p, .ro (.ints .i64 ws) ws.length 1]] []
  = (bif decide (ws.length = ws.length) && wo.sp p ws && (false && true || true && true) then bif true && true then L0 f f (mkS (47 : Nat) [((1 : Nat), AVal.ptr (0 : Nat) (0 : Nat) (0 : Nat)), ((2 : Nat), AVal.bool false), ((3 : Nat), AVal.bool false), ((10 : Nat), AVal.int IntKind.i64 (↑ws.length : Int)), ((11 : Nat), AVal.int IntKind.i64 (0 : Int))] [{ c := BC.cells [AVal.int IntKind.i64 p, AVal.ro (Cont.ints IntKind.i64 ws) ws.length (1 : Nat)], ver := (0 : Nat) }]) else none else none) := by kernel_rfl
theorem round0 (p l a : Int) (ws : List Int) (f n : Nat) :
  L0 f (n + 1) (mkS 47 [(1, .ptr 0 0 0), (2, .bool false), (3, .bool false), (10, .int .i64 l), (11, .int .i64 a)] [⟨.cells [.int .i64 p, .ro (.ints .i64 ws) ws.length 1], 0⟩])
  = (bif decide (a < l) then bif true && true then L2 f n f (mkS (47 : Nat) [((1 : Nat), AVal.ptr (0 : Nat) (0 : Nat) (0 : Nat)), ((2 : Nat), AVal.bool false), ((3 : Nat), AVal.bool false), ((4 : Nat), AVal.int IntKind.i64 a), ((10 : Nat), AVal.int IntKind.i64 l), ((11 : Nat), AVal.int IntKind.i64 a), ((16 : Nat), AVal.int IntKind.i64 (↑ws.length : Int)), ((17 : Nat), AVal.int IntKind.i64 (0 : Int))] [{ c := BC.cells [AVal.int IntKind.i64 p, AVal.ro (Cont.ints IntKind.i64 ws) ws.length (1 : Nat)], ver := (0 : Nat) }]) else none else some (AVal.tup [AVal.bool true, AVal.bool true], [{ c := BC.cells [AVal.int IntKind.i64 p, AVal.ro (Cont.ints IntKind.i64 ws) ws.length (1 : Nat)], ver := (0 : Nat) }])) := by kernel_rfl
theorem round2 (p l a k b : Int) (ws : List Int) (f n n2 : Nat) :
  L2 f n (n2 + 1) (mkS 47 [(1, .ptr 0 0 0), (2, .bool false), (3, .bool false), (4, .int .i64 a), (10, .int .i64 l), (11, .int .i64 a), (16, .int .i64 k), (17, .int .i64 b)] [⟨.cells [.int .i64 p, .ro (.ints .i64 ws) ws.length 1], 0⟩])
  = (bif decide (b < k) then bif iand.sv IntKind.i64 a b == (0 : Int) then bif true && true then bif true && (decide ((0 : Int) ≤ a) && decide (a < (↑ws.length : Int))) then bif decide (a.toNat < ws.length) then bif true && true then bif true && (decide ((0 : Int) ≤ b) && decide (b < (↑ws.length : Int))) then bif decide (b.toNat < ws.length) then bif true && true then bif true && (decide ((0 : Int) ≤ ior.sv IntKind.i64 a b) && decide (ior.sv IntKind.i64 a b < (↑ws.length : Int))) then bif decide ((ior.sv IntKind.i64 a b).toNat < ws.length) then bif decide (gz ws (ior.sv IntKind.i64 a b).toNat < IntKind.i64.wrap (gz ws a.toNat + gz ws b.toNat)) then some (AVal.tup [AVal.bool false, AVal.bool true], [{ c := BC.cells [AVal.int IntKind.i64 p, AVal.ro (Cont.ints IntKind.i64 ws) ws.length (1 : Nat)], ver := (0 : Nat) }]) else L2 f n n2 (mkS (47 : Nat) [((1 : Nat), AVal.ptr (0 : Nat) (0 : Nat) (0 : Nat)), ((2 : Nat), AVal.bool false), ((3 : Nat), AVal.bool false), ((4 : Nat), AVal.int IntKind.i64 a), ((10 : Nat), AVal.int IntKind.i64 l), ((11 : Nat), AVal.int IntKind.i64 a), ((16 : Nat), AVal.int IntKind.i64 k), ((17 : Nat), AVal.int IntKind.i64 (IntKind.i64.wrap (b + (1 : Int))))] [{ c := BC.cells [AVal.int IntKind.i64 p, AVal.ro (Cont.ints IntKind.i64 ws) ws.length (1 : Nat)], ver := (0 : Nat) }]) else none else none else none else none else none else none else none else none else none else L2 f n n2 (mkS (47 : Nat) [((1 : Nat), AVal.ptr (0 : Nat) (0 : Nat) (0 : Nat)), ((2 : Nat), AVal.bool false), ((3 : Nat), AVal.bool false), ((4 : Nat), AVal.int IntKind.i64 a), ((10 : Nat), AVal.int IntKind.i64 l), ((11 : Nat), AVal.int IntKind.i64 a), ((16 : Nat), AVal.int IntKind.i64 k), ((17 : Nat), AVal.int IntKind.i64 (IntKind.i64.wrap (b + (1 : Int))))] [{ c := BC.cells [AVal.int IntKind.i64 p, AVal.ro (Cont.ints IntKind.i64 ws) ws.length (1 : Nat)], ver := (0 : Nat) }]) else L0 f n (mkS (47 : Nat) [((1 : Nat), AVal.ptr (0 : Nat) (0 : Nat) (0 : Nat)), ((2 : Nat), AVal.bool false), ((3 : Nat), AVal.bool false), ((10 : Nat), AVal.int IntKind.i64 l), ((11 : Nat), AVal.int IntKind.i64 (IntKind.i64.wrap (a + (1 : Int))))] [{ c := BC.cells [AVal.int IntKind.i64 p, AVal.ro (Cont.ints IntKind.i64 ws) ws.length (1 : Nat)], ver := (0 : Nat) }])) := by kernel_rfl
theorem loop2 (p a : Nat) (ws : List Int) (f n : Nat) (hp : 1 ≤ p ∧ p ≤ 6) (hw : ws.length = 2 ^ p) (v : ∀ x ∈ ws, -10000 ≤ x ∧ x ≤ 10000) (ha : a < ws.length) (hl : ws.length ≤ 64) : ∀ (d b n2 : Nat), b + d = ws.length → d < n2 →
    L2 f n n2 (mkS 47 [(1, .ptr 0 0 0), (2, .bool false), (3, .bool false), (4, .int .i64 ((a : Nat) : Int)), (10, .int .i64 ((ws.length : Nat) : Int)), (11, .int .i64 ((a : Nat) : Int)), (16, .int .i64 ((ws.length : Nat) : Int)), (17, .int .i64 ((b : Nat) : Int))] [⟨.cells [.int .i64 ((p : Nat) : Int), .ro (.ints .i64 ws) ws.length 1], 0⟩]) = bif fs.al.sp (co.join.sp ws a) d b then L0 f n (mkS 47 [(1, .ptr 0 0 0), (2, .bool false), (3, .bool false), (10, .int .i64 ((ws.length : Nat) : Int)), (11, .int .i64 ((a + 1 : Nat) : Int))] [⟨.cells [.int .i64 ((p : Nat) : Int), .ro (.ints .i64 ws) ws.length 1], 0⟩]) else some (.tup [.bool false, .bool true], [⟨.cells [.int .i64 ((p : Nat) : Int), .ro (.ints .i64 ws) ws.length 1], 0⟩]) := by
  intro d
  induction d with
  | zero =>
    intro b n2 hb hn
    obtain ⟨n2, rfl⟩ : ∃ k, n2 = k + 1 := ⟨n2 - 1, by omega⟩
    obtain rfl : b = ws.length := by omega
    rw [round2, fs.al.sp]
    simp -implicitDefEqProofs (disch := omega) only [take_one, set_one, decide_eq_true, decide_eq_false, IntWalk.i64_in, beqT, beqF, bneT, bneF, nat_succ, ← Int.natCast_mul, ← Int.natCast_add, Int.toNat_natCast, Int.zero_mul, Int.zero_add, Int.add_zero, Nat.zero_add, Nat.add_zero, Nat.zero_mul, List.length_singleton, List.length_append, List.length_nil, List.length_cons, List.take_length, List.drop_zero, List.replicate_zero, List.take_nil, List.nil_append, Nat.reduceBEq, Nat.reduceMul, Nat.reduceLeDiff, eq_self, and_self, true_and, and_true, decide_true, decide_false, Bool.and_self, Bool.or_self, Bool.and_true, Bool.true_and, Bool.and_false, Bool.false_and, Bool.or_true, Bool.true_or, Bool.or_false, Bool.false_or, Bool.not_true, Bool.not_false, cond_true, cond_false]
  | succ d ih =>
    intro b n2 hb hn
    obtain ⟨n2, rfl⟩ : ∃ k, n2 = k + 1 := ⟨n2 - 1, by omega⟩
    have g := ih (b + 1) n2 (by omega) (by omega)
    have s1 := co.ior_nat a (by omega) b (by omega)
    have s2 := vo.iand_nat a (by omega) b (by omega)
    have o1 : a ||| b < ws.length := by rw [hw]; exact Nat.or_lt_two_pow (by omega) (by omega)
    have o2 : a &&& b < ws.length := co.and_lt b (by omega)
    have b1 := wo.gz_in v a
    have b2 := wo.gz_in v b
    have b3 := wo.gz_in v (a ||| b)
    have b4 := wo.gz_in v (a &&& b)
    rw [round2, fs.al.sp, co.join.sp]
    by_cases c0 : a &&& b = 0
    · by_cases c : gz ws a + gz ws b ≤ gz ws (a ||| b)
      · simp -implicitDefEqProofs (disch := omega) only [s1, s2, take_one, set_one, decide_eq_true, decide_eq_false, IntWalk.i64_in, beqT, beqF, bneT, bneF, nat_succ, ← Int.natCast_mul, ← Int.natCast_add, Int.toNat_natCast, Int.zero_mul, Int.zero_add, Int.add_zero, Nat.zero_add, Nat.add_zero, Nat.zero_mul, List.length_singleton, List.length_append, List.length_nil, List.length_cons, List.take_length, List.drop_zero, List.replicate_zero, List.take_nil, List.nil_append, Nat.reduceBEq, Nat.reduceMul, Nat.reduceLeDiff, eq_self, and_self, true_and, and_true, decide_true, decide_false, Bool.and_self, Bool.or_self, Bool.and_true, Bool.true_and, Bool.and_false, Bool.false_and, Bool.or_true, Bool.true_or, Bool.or_false, Bool.false_or, Bool.not_true, Bool.not_false, cond_true, cond_false]
        exact g
      · simp -implicitDefEqProofs (disch := omega) only [s1, s2, take_one, set_one, decide_eq_true, decide_eq_false, IntWalk.i64_in, beqT, beqF, bneT, bneF, nat_succ, ← Int.natCast_mul, ← Int.natCast_add, Int.toNat_natCast, Int.zero_mul, Int.zero_add, Int.add_zero, Nat.zero_add, Nat.add_zero, Nat.zero_mul, List.length_singleton, List.length_append, List.length_nil, List.length_cons, List.take_length, List.drop_zero, List.replicate_zero, List.take_nil, List.nil_append, Nat.reduceBEq, Nat.reduceMul, Nat.reduceLeDiff, eq_self, and_self, true_and, and_true, decide_true, decide_false, Bool.and_self, Bool.or_self, Bool.and_true, Bool.true_and, Bool.and_false, Bool.false_and, Bool.or_true, Bool.true_or, Bool.or_false, Bool.false_or, Bool.not_true, Bool.not_false, cond_true, cond_false]
    · simp -implicitDefEqProofs (disch := omega) only [s1, s2, take_one, set_one, decide_eq_true, decide_eq_false, IntWalk.i64_in, beqT, beqF, bneT, bneF, nat_succ, ← Int.natCast_mul, ← Int.natCast_add, Int.toNat_natCast, Int.zero_mul, Int.zero_add, Int.add_zero, Nat.zero_add, Nat.add_zero, Nat.zero_mul, List.length_singleton, List.length_append, List.length_nil, List.length_cons, List.take_length, List.drop_zero, List.replicate_zero, List.take_nil, List.nil_append, Nat.reduceBEq, Nat.reduceMul, Nat.reduceLeDiff, eq_self, and_self, true_and, and_true, decide_true, decide_false, Bool.and_self, Bool.or_self, Bool.and_true, Bool.true_and, Bool.and_false, Bool.false_and, Bool.or_true, Bool.true_or, Bool.or_false, Bool.false_or, Bool.not_true, Bool.not_false, cond_true, cond_false]
      exact g
theorem loop0 (p : Nat) (ws : List Int) (f : Nat) (hp : 1 ≤ p ∧ p ≤ 6) (hw : ws.length = 2 ^ p) (v : ∀ x ∈ ws, -10000 ≤ x ∧ x ≤ 10000) (hl : ws.length ≤ 64) (hf : 64 < f) : ∀ (d a n : Nat), a + d = ws.length → d < n →
    L0 f n (mkS 47 [(1, .ptr 0 0 0), (2, .bool false), (3, .bool false), (10, .int .i64 ((ws.length : Nat) : Int)), (11, .int .i64 ((a : Nat) : Int))] [⟨.cells [.int .i64 ((p : Nat) : Int), .ro (.ints .i64 ws) ws.length 1], 0⟩]) = some (.tup [.bool (fs.al.sp (fun a => fs.al.sp (co.join.sp ws a) ws.length 0) d a), .bool true], [⟨.cells [.int .i64 ((p : Nat) : Int), .ro (.ints .i64 ws) ws.length 1], 0⟩]) := by
  intro d
  induction d with
  | zero =>
    intro a n ha hn
    obtain ⟨n, rfl⟩ : ∃ k, n = k + 1 := ⟨n - 1, by omega⟩
    obtain rfl : a = ws.length := by omega
    rw [round0, fs.al.sp]
    simp -implicitDefEqProofs (disch := omega) only [take_one, set_one, decide_eq_true, decide_eq_false, IntWalk.i64_in, beqT, beqF, bneT, bneF, nat_succ, ← Int.natCast_mul, ← Int.natCast_add, Int.toNat_natCast, Int.zero_mul, Int.zero_add, Int.add_zero, Nat.zero_add, Nat.add_zero, Nat.zero_mul, List.length_singleton, List.length_append, List.length_nil, List.length_cons, List.take_length, List.drop_zero, List.replicate_zero, List.take_nil, List.nil_append, Nat.reduceBEq, Nat.reduceMul, Nat.reduceLeDiff, eq_self, and_self, true_and, and_true, decide_true, decide_false, Bool.and_self, Bool.or_self, Bool.and_true, Bool.true_and, Bool.and_false, Bool.false_and, Bool.or_true, Bool.true_or, Bool.or_false, Bool.false_or, Bool.not_true, Bool.not_false, cond_true, cond_false]
  | succ d ih =>
    intro a n ha hn
    obtain ⟨n, rfl⟩ : ∃ k, n = k + 1 := ⟨n - 1, by omega⟩
    have g := ih (a + 1) n (by omega) (by omega)
    have g0 := loop2 p a ws f n hp hw v (by omega) hl (ws.length) 0 f (by omega) (by omega)
    rw [round0, fs.al.sp]
    simp -implicitDefEqProofs (disch := omega) only [take_one, set_one, decide_eq_true, decide_eq_false, IntWalk.i64_in, beqT, beqF, bneT, bneF, nat_succ, ← Int.natCast_mul, ← Int.natCast_add, Int.toNat_natCast, Int.zero_mul, Int.zero_add, Int.add_zero, Nat.zero_add, Nat.add_zero, Nat.zero_mul, List.length_singleton, List.length_append, List.length_nil, List.length_cons, List.take_length, List.drop_zero, List.replicate_zero, List.take_nil, List.nil_append, Nat.reduceBEq, Nat.reduceMul, Nat.reduceLeDiff, eq_self, and_self, true_and, and_true, decide_true, decide_false, Bool.and_self, Bool.or_self, Bool.and_true, Bool.true_and, Bool.and_false, Bool.false_and, Bool.or_true, Bool.true_or, Bool.or_false, Bool.false_or, Bool.not_true, Bool.not_false, cond_true, cond_false]
    refine g0.trans ?_
    cases he : fs.al.sp (co.join.sp ws a) (ws.length) 0 with
    | false => rfl
    | true => exact g
theorem run : ∀ args v new, R args = some (true, v, new) → ∃ fuel, regc [] (runFn Try.prog (orc [⟨59, l03Is.R⟩]) hd Dr.std none fuel (bodyOf Try.f14) 47 [2, 3] args []) = some (v, new) := by
  intro args v new h
  unfold R at h
  split at h
  · rename_i p ws m
    simp only [Option.some.injEq, Prod.mk.injEq, Bool.and_eq_true, decide_eq_true_eq] at h
    obtain ⟨⟨rfl, hs⟩, rfl, rfl⟩ := h
    have hs2 := hs
    obtain ⟨p, rfl, hp, hw, h0, v⟩ := wo.valid hs2
    have h64 := wo.pow_le hp.2
    have h1p := wo.pow_pos p
    obtain ⟨F, hF⟩ : ∃ F : Nat, F = 100 := ⟨100, rfl⟩
    refine ⟨F, ?_⟩
    have g := loop0 p ws F hp hw v (by omega) (by omega) ws.length 0 F (by omega) (by omega)
    rw [start]
    simp -implicitDefEqProofs (disch := omega) only [hs, take_one, set_one, decide_eq_true, decide_eq_false, IntWalk.i64_in, beqT, beqF, bneT, bneF, nat_succ, ← Int.natCast_mul, ← Int.natCast_add, Int.toNat_natCast, Int.zero_mul, Int.zero_add, Int.add_zero, Nat.zero_add, Nat.add_zero, Nat.zero_mul, List.length_singleton, List.length_append, List.length_nil, List.length_cons, List.take_length, List.drop_zero, List.replicate_zero, List.take_nil, List.nil_append, Nat.reduceBEq, Nat.reduceMul, Nat.reduceLeDiff, eq_self, and_self, true_and, and_true, decide_true, decide_false, Bool.and_self, Bool.or_self, Bool.and_true, Bool.true_and, Bool.and_false, Bool.false_and, Bool.or_true, Bool.true_or, Bool.or_false, Bool.false_or, Bool.not_true, Bool.not_false, cond_true, cond_false]
    exact congrArg (regc []) g
  · cases h
theorem ok : EntOk Try.prog ⟨14, R⟩ :=
  ent_okAG (ks := []) mixed (A := (orc [⟨59, l03Is.R⟩])) (orc_ok (by simp only [List.mem_cons, List.not_mem_nil, or_false, forall_eq_or_imp, forall_eq]; exact l03Is.ok)) Try.func14 (by kernel_rfl) (by kernel_rfl) (n := 47) (ts := [2, 3]) (hd := hd) (dr := Dr.std) (cut := none) (by kernel_rfl) (by kernel_rfl) (by kernel_rfl) run
end sIsJoining

namespace sIsRising
def R : List AVal → Option (Bool × AVal × List Blk)
  | [.agg [.int .i64 p, .ro (.ints .i64 ws) m 1]] => some (decide (m = ws.length) && wo.sp p ws, .tup [.bool (fs.al.sp (fun a => fs.al.sp (co.ris1.sp ws a) p.toNat 0) ws.length 0), .bool true], [])
  | _ => none
def hd : Nat → Head := fun i => bif eqN i 0 then ⟨[1, 2, 3, 10, 11, 998], none⟩ else ⟨[1, 2, 3, 4, 5, 10, 11, 998], none⟩
noncomputable def L0 (f n : Nat) (s : State) := loopAt Try.prog (orc [⟨59, l03Is.R⟩, ⟨60, l03In.R⟩]) hd Dr.std 0 f (bodyOf Try.f15) 0 [true, true, false, true] (retK Try.prog [2, 3] 0 none) n s
noncomputable def L2 (f n n2 : Nat) (s : State) := loopAt Try.prog (orc [⟨59, l03Is.R⟩, ⟨60, l03In.R⟩]) hd Dr.std 0 f (bodyAt (bodyOf Try.f15) [true, true, false, true]) (curAt (bodyOf Try.f15) 0 [true, true, false, true]) [true, true, false, true, true] (iterK (normE 0 (hd (curAt (bodyOf Try.f15) 0 [true, true, false, true]))) (L0 f n) (contAt Try.prog (orc [⟨59, l03Is.R⟩, ⟨60, l03In.R⟩]) hd Dr.std 0 f (bodyOf Try.f15) 0 [true, true, false, true] (retK Try.prog [2, 3] 0 none))) n2 s
theorem start (p : Int) (ws : List Int) (f : Nat) :
  runFn Try.prog (orc [⟨59, l03Is.R⟩, ⟨60, l03In.R⟩]) hd Dr.std none f (bodyOf Try.f15) 42 [2, 3] [.agg [.int .i64 p, .ro (.ints .i64 ws) ws.length 1]] []
  = (bif decide (ws.length = ws.length) && wo.sp p ws && (false && true || true && true) then bif true && true then L0 f f (mkS (42 : Nat) [((1 : Nat), AVal.ptr (0 : Nat) (0 : Nat) (0 : Nat)), ((2 : Nat), AVal.bool false), ((3 : Nat), AVal.bool false), ((10 : Nat), AVal.int IntKind.i64 (↑ws.length : Int)), ((11 : Nat), AVal.int IntKind.i64 (0 : Int))] [{ c := BC.cells [AVal.int IntKind.i64 p, AVal.ro (Cont.ints IntKind.i64 ws) ws.length (1 : Nat)], ver := (0 : Nat) }]) else none else none) := by kernel_rfl
theorem round0 (p l a : Int) (ws : List Int) (f n : Nat) :
  L0 f (n + 1) (mkS 42 [(1, .ptr 0 0 0), (2, .bool false), (3, .bool false), (10, .int .i64 l), (11, .int .i64 a)] [⟨.cells [.int .i64 p, .ro (.ints .i64 ws) ws.length 1], 0⟩])
  = (bif decide (a < l) then L2 f n f (mkS (42 : Nat) [((1 : Nat), AVal.ptr (0 : Nat) (0 : Nat) (0 : Nat)), ((2 : Nat), AVal.bool false), ((3 : Nat), AVal.bool false), ((4 : Nat), AVal.int IntKind.i64 a), ((5 : Nat), AVal.int IntKind.i64 (0 : Int)), ((10 : Nat), AVal.int IntKind.i64 l), ((11 : Nat), AVal.int IntKind.i64 a)] [{ c := BC.cells [AVal.int IntKind.i64 p, AVal.ro (Cont.ints IntKind.i64 ws) ws.length (1 : Nat)], ver := (0 : Nat) }]) else some (AVal.tup [AVal.bool true, AVal.bool true], [{ c := BC.cells [AVal.int IntKind.i64 p, AVal.ro (Cont.ints IntKind.i64 ws) ws.length (1 : Nat)], ver := (0 : Nat) }])) := by kernel_rfl
theorem round2 (p l a b : Int) (ws : List Int) (f n n2 : Nat) :
  L2 f n (n2 + 1) (mkS 42 [(1, .ptr 0 0 0), (2, .bool false), (3, .bool false), (4, .int .i64 a), (10, .int .i64 l), (11, .int .i64 a), (5, .int .i64 b)] [⟨.cells [.int .i64 p, .ro (.ints .i64 ws) ws.length 1], 0⟩])
  = (bif true && true then bif decide (b < p) then bif decide ((0 : Int) ≤ a ∧ a < (64 : Int) ∧ (0 : Int) ≤ b ∧ b < (6 : Int)) && (true && (true && true) || true && true) then bif !!wo.off.sp a.toNat b.toNat then bif true && true then bif decide ((0 : Int) ≤ IntKind.u64.wrap b) then bif true && (decide ((0 : Int) ≤ IntKind.i64.wrap (a + ishl.sv IntKind.i64 (1 : Int) (IntKind.u64.wrap b))) && decide (IntKind.i64.wrap (a + ishl.sv IntKind.i64 (1 : Int) (IntKind.u64.wrap b)) < (↑ws.length : Int))) then bif decide ((IntKind.i64.wrap (a + ishl.sv IntKind.i64 (1 : Int) (IntKind.u64.wrap b))).toNat < ws.length) then bif true && true then bif true && (decide ((0 : Int) ≤ a) && decide (a < (↑ws.length : Int))) then bif decide (a.toNat < ws.length) then bif decide (gz ws (IntKind.i64.wrap (a + ishl.sv IntKind.i64 (1 : Int) (IntKind.u64.wrap b))).toNat < gz ws a.toNat) then some (AVal.tup [AVal.bool false, AVal.bool true], [{ c := BC.cells [AVal.int IntKind.i64 p, AVal.ro (Cont.ints IntKind.i64 ws) ws.length (1 : Nat)], ver := (0 : Nat) }]) else L2 f n n2 (mkS (42 : Nat) [((1 : Nat), AVal.ptr (0 : Nat) (0 : Nat) (0 : Nat)), ((2 : Nat), AVal.bool false), ((3 : Nat), AVal.bool false), ((4 : Nat), AVal.int IntKind.i64 a), ((5 : Nat), AVal.int IntKind.i64 (IntKind.i64.wrap (b + (1 : Int)))), ((10 : Nat), AVal.int IntKind.i64 l), ((11 : Nat), AVal.int IntKind.i64 a)] [{ c := BC.cells [AVal.int IntKind.i64 p, AVal.ro (Cont.ints IntKind.i64 ws) ws.length (1 : Nat)], ver := (0 : Nat) }]) else none else none else none else none else none else none else none else L2 f n n2 (mkS (42 : Nat) [((1 : Nat), AVal.ptr (0 : Nat) (0 : Nat) (0 : Nat)), ((2 : Nat), AVal.bool false), ((3 : Nat), AVal.bool false), ((4 : Nat), AVal.int IntKind.i64 a), ((5 : Nat), AVal.int IntKind.i64 (IntKind.i64.wrap (b + (1 : Int)))), ((10 : Nat), AVal.int IntKind.i64 l), ((11 : Nat), AVal.int IntKind.i64 a)] [{ c := BC.cells [AVal.int IntKind.i64 p, AVal.ro (Cont.ints IntKind.i64 ws) ws.length (1 : Nat)], ver := (0 : Nat) }]) else none else L0 f n (mkS (42 : Nat) [((1 : Nat), AVal.ptr (0 : Nat) (0 : Nat) (0 : Nat)), ((2 : Nat), AVal.bool false), ((3 : Nat), AVal.bool false), ((10 : Nat), AVal.int IntKind.i64 l), ((11 : Nat), AVal.int IntKind.i64 (IntKind.i64.wrap (a + (1 : Int))))] [{ c := BC.cells [AVal.int IntKind.i64 p, AVal.ro (Cont.ints IntKind.i64 ws) ws.length (1 : Nat)], ver := (0 : Nat) }]) else none) := by kernel_rfl
theorem loop2 (p a : Nat) (ws : List Int) (f n : Nat) (hp : 1 ≤ p ∧ p ≤ 6) (hw : ws.length = 2 ^ p) (v : ∀ x ∈ ws, -10000 ≤ x ∧ x ≤ 10000) (ha : a < ws.length) (hl : ws.length ≤ 64) : ∀ (d b n2 : Nat), b + d = p → d < n2 →
    L2 f n n2 (mkS 42 [(1, .ptr 0 0 0), (2, .bool false), (3, .bool false), (4, .int .i64 ((a : Nat) : Int)), (10, .int .i64 ((ws.length : Nat) : Int)), (11, .int .i64 ((a : Nat) : Int)), (5, .int .i64 ((b : Nat) : Int))] [⟨.cells [.int .i64 ((p : Nat) : Int), .ro (.ints .i64 ws) ws.length 1], 0⟩]) = bif fs.al.sp (co.ris1.sp ws a) d b then L0 f n (mkS 42 [(1, .ptr 0 0 0), (2, .bool false), (3, .bool false), (10, .int .i64 ((ws.length : Nat) : Int)), (11, .int .i64 ((a + 1 : Nat) : Int))] [⟨.cells [.int .i64 ((p : Nat) : Int), .ro (.ints .i64 ws) ws.length 1], 0⟩]) else some (.tup [.bool false, .bool true], [⟨.cells [.int .i64 ((p : Nat) : Int), .ro (.ints .i64 ws) ws.length 1], 0⟩]) := by
  intro d
  induction d with
  | zero =>
    intro b n2 hb hn
    obtain ⟨n2, rfl⟩ : ∃ k, n2 = k + 1 := ⟨n2 - 1, by omega⟩
    obtain rfl : b = p := by omega
    rw [round2, fs.al.sp]
    simp -implicitDefEqProofs (disch := omega) only [take_one, set_one, decide_eq_true, decide_eq_false, IntWalk.i64_in, beqT, beqF, bneT, bneF, nat_succ, ← Int.natCast_mul, ← Int.natCast_add, Int.toNat_natCast, Int.zero_mul, Int.zero_add, Int.add_zero, Nat.zero_add, Nat.add_zero, Nat.zero_mul, List.length_singleton, List.length_append, List.length_nil, List.length_cons, List.take_length, List.drop_zero, List.replicate_zero, List.take_nil, List.nil_append, Nat.reduceBEq, Nat.reduceMul, Nat.reduceLeDiff, eq_self, and_self, true_and, and_true, decide_true, decide_false, Bool.and_self, Bool.or_self, Bool.and_true, Bool.true_and, Bool.and_false, Bool.false_and, Bool.or_true, Bool.true_or, Bool.or_false, Bool.false_or, Bool.not_true, Bool.not_false, cond_true, cond_false]
  | succ d ih =>
    intro b n2 hb hn
    obtain ⟨n2, rfl⟩ : ∃ k, n2 = k + 1 := ⟨n2 - 1, by omega⟩
    have g := ih (b + 1) n2 (by omega) (by omega)
    have u1 := wo.u64_nat b (by omega)
    have s1 := wo.shl_one b (by omega)
    rw [round2, fs.al.sp, co.ris1.sp]
    cases ho : wo.off.sp a b with
    | false =>
      simp -implicitDefEqProofs (disch := omega) only [u1, s1, ho, take_one, set_one, decide_eq_true, decide_eq_false, IntWalk.i64_in, beqT, beqF, bneT, bneF, nat_succ, ← Int.natCast_mul, ← Int.natCast_add, Int.toNat_natCast, Int.zero_mul, Int.zero_add, Int.add_zero, Nat.zero_add, Nat.add_zero, Nat.zero_mul, List.length_singleton, List.length_append, List.length_nil, List.length_cons, List.take_length, List.drop_zero, List.replicate_zero, List.take_nil, List.nil_append, Nat.reduceBEq, Nat.reduceMul, Nat.reduceLeDiff, eq_self, and_self, true_and, and_true, decide_true, decide_false, Bool.and_self, Bool.or_self, Bool.and_true, Bool.true_and, Bool.and_false, Bool.false_and, Bool.or_true, Bool.true_or, Bool.or_false, Bool.false_or, Bool.not_true, Bool.not_false, cond_true, cond_false]
      exact g
    | true =>
      have e1 := wo.off_add a (by omega) b (by omega) ho
      have l1 : wo.up.sv a b < 2 ^ p := wo.up_lt (by omega) (by omega)
      by_cases c : gz ws a ≤ gz ws (a + 2 ^ b)
      · simp -implicitDefEqProofs (disch := omega) only [u1, s1, ho, take_one, set_one, decide_eq_true, decide_eq_false, IntWalk.i64_in, beqT, beqF, bneT, bneF, nat_succ, ← Int.natCast_mul, ← Int.natCast_add, Int.toNat_natCast, Int.zero_mul, Int.zero_add, Int.add_zero, Nat.zero_add, Nat.add_zero, Nat.zero_mul, List.length_singleton, List.length_append, List.length_nil, List.length_cons, List.take_length, List.drop_zero, List.replicate_zero, List.take_nil, List.nil_append, Nat.reduceBEq, Nat.reduceMul, Nat.reduceLeDiff, eq_self, and_self, true_and, and_true, decide_true, decide_false, Bool.and_self, Bool.or_self, Bool.and_true, Bool.true_and, Bool.and_false, Bool.false_and, Bool.or_true, Bool.true_or, Bool.or_false, Bool.false_or, Bool.not_true, Bool.not_false, cond_true, cond_false]
        exact g
      · simp -implicitDefEqProofs (disch := omega) only [u1, s1, ho, take_one, set_one, decide_eq_true, decide_eq_false, IntWalk.i64_in, beqT, beqF, bneT, bneF, nat_succ, ← Int.natCast_mul, ← Int.natCast_add, Int.toNat_natCast, Int.zero_mul, Int.zero_add, Int.add_zero, Nat.zero_add, Nat.add_zero, Nat.zero_mul, List.length_singleton, List.length_append, List.length_nil, List.length_cons, List.take_length, List.drop_zero, List.replicate_zero, List.take_nil, List.nil_append, Nat.reduceBEq, Nat.reduceMul, Nat.reduceLeDiff, eq_self, and_self, true_and, and_true, decide_true, decide_false, Bool.and_self, Bool.or_self, Bool.and_true, Bool.true_and, Bool.and_false, Bool.false_and, Bool.or_true, Bool.true_or, Bool.or_false, Bool.false_or, Bool.not_true, Bool.not_false, cond_true, cond_false]
theorem loop0 (p : Nat) (ws : List Int) (f : Nat) (hp : 1 ≤ p ∧ p ≤ 6) (hw : ws.length = 2 ^ p) (v : ∀ x ∈ ws, -10000 ≤ x ∧ x ≤ 10000) (hl : ws.length ≤ 64) (hf : 64 < f) : ∀ (d a n : Nat), a + d = ws.length → d < n →
    L0 f n (mkS 42 [(1, .ptr 0 0 0), (2, .bool false), (3, .bool false), (10, .int .i64 ((ws.length : Nat) : Int)), (11, .int .i64 ((a : Nat) : Int))] [⟨.cells [.int .i64 ((p : Nat) : Int), .ro (.ints .i64 ws) ws.length 1], 0⟩]) = some (.tup [.bool (fs.al.sp (fun a => fs.al.sp (co.ris1.sp ws a) p 0) d a), .bool true], [⟨.cells [.int .i64 ((p : Nat) : Int), .ro (.ints .i64 ws) ws.length 1], 0⟩]) := by
  intro d
  induction d with
  | zero =>
    intro a n ha hn
    obtain ⟨n, rfl⟩ : ∃ k, n = k + 1 := ⟨n - 1, by omega⟩
    obtain rfl : a = ws.length := by omega
    rw [round0, fs.al.sp]
    simp -implicitDefEqProofs (disch := omega) only [take_one, set_one, decide_eq_true, decide_eq_false, IntWalk.i64_in, beqT, beqF, bneT, bneF, nat_succ, ← Int.natCast_mul, ← Int.natCast_add, Int.toNat_natCast, Int.zero_mul, Int.zero_add, Int.add_zero, Nat.zero_add, Nat.add_zero, Nat.zero_mul, List.length_singleton, List.length_append, List.length_nil, List.length_cons, List.take_length, List.drop_zero, List.replicate_zero, List.take_nil, List.nil_append, Nat.reduceBEq, Nat.reduceMul, Nat.reduceLeDiff, eq_self, and_self, true_and, and_true, decide_true, decide_false, Bool.and_self, Bool.or_self, Bool.and_true, Bool.true_and, Bool.and_false, Bool.false_and, Bool.or_true, Bool.true_or, Bool.or_false, Bool.false_or, Bool.not_true, Bool.not_false, cond_true, cond_false]
  | succ d ih =>
    intro a n ha hn
    obtain ⟨n, rfl⟩ : ∃ k, n = k + 1 := ⟨n - 1, by omega⟩
    have g := ih (a + 1) n (by omega) (by omega)
    have g0 := loop2 p a ws f n hp hw v (by omega) hl (p) 0 f (by omega) (by omega)
    rw [round0, fs.al.sp]
    simp -implicitDefEqProofs (disch := omega) only [take_one, set_one, decide_eq_true, decide_eq_false, IntWalk.i64_in, beqT, beqF, bneT, bneF, nat_succ, ← Int.natCast_mul, ← Int.natCast_add, Int.toNat_natCast, Int.zero_mul, Int.zero_add, Int.add_zero, Nat.zero_add, Nat.add_zero, Nat.zero_mul, List.length_singleton, List.length_append, List.length_nil, List.length_cons, List.take_length, List.drop_zero, List.replicate_zero, List.take_nil, List.nil_append, Nat.reduceBEq, Nat.reduceMul, Nat.reduceLeDiff, eq_self, and_self, true_and, and_true, decide_true, decide_false, Bool.and_self, Bool.or_self, Bool.and_true, Bool.true_and, Bool.and_false, Bool.false_and, Bool.or_true, Bool.true_or, Bool.or_false, Bool.false_or, Bool.not_true, Bool.not_false, cond_true, cond_false]
    refine g0.trans ?_
    cases he : fs.al.sp (co.ris1.sp ws a) (p) 0 with
    | false => rfl
    | true => exact g
theorem run : ∀ args v new, R args = some (true, v, new) → ∃ fuel, regc [] (runFn Try.prog (orc [⟨59, l03Is.R⟩, ⟨60, l03In.R⟩]) hd Dr.std none fuel (bodyOf Try.f15) 42 [2, 3] args []) = some (v, new) := by
  intro args v new h
  unfold R at h
  split at h
  · rename_i p ws m
    simp only [Option.some.injEq, Prod.mk.injEq, Bool.and_eq_true, decide_eq_true_eq] at h
    obtain ⟨⟨rfl, hs⟩, rfl, rfl⟩ := h
    have hs2 := hs
    obtain ⟨p, rfl, hp, hw, h0, v⟩ := wo.valid hs2
    have h64 := wo.pow_le hp.2
    have h1p := wo.pow_pos p
    obtain ⟨F, hF⟩ : ∃ F : Nat, F = 100 := ⟨100, rfl⟩
    refine ⟨F, ?_⟩
    have g := loop0 p ws F hp hw v (by omega) (by omega) ws.length 0 F (by omega) (by omega)
    rw [start]
    simp -implicitDefEqProofs (disch := omega) only [hs, take_one, set_one, decide_eq_true, decide_eq_false, IntWalk.i64_in, beqT, beqF, bneT, bneF, nat_succ, ← Int.natCast_mul, ← Int.natCast_add, Int.toNat_natCast, Int.zero_mul, Int.zero_add, Int.add_zero, Nat.zero_add, Nat.add_zero, Nat.zero_mul, List.length_singleton, List.length_append, List.length_nil, List.length_cons, List.take_length, List.drop_zero, List.replicate_zero, List.take_nil, List.nil_append, Nat.reduceBEq, Nat.reduceMul, Nat.reduceLeDiff, eq_self, and_self, true_and, and_true, decide_true, decide_false, Bool.and_self, Bool.or_self, Bool.and_true, Bool.true_and, Bool.and_false, Bool.false_and, Bool.or_true, Bool.true_or, Bool.or_false, Bool.false_or, Bool.not_true, Bool.not_false, cond_true, cond_false]
    exact congrArg (regc []) g
  · cases h
theorem ok : EntOk Try.prog ⟨15, R⟩ :=
  ent_okAG (ks := []) mixed (A := (orc [⟨59, l03Is.R⟩, ⟨60, l03In.R⟩])) (orc_ok (by simp only [List.mem_cons, List.not_mem_nil, or_false, forall_eq_or_imp, forall_eq]; exact ⟨l03Is.ok, l03In.ok⟩)) Try.func15 (by kernel_rfl) (by kernel_rfl) (n := 42) (ts := [2, 3]) (hd := hd) (dr := Dr.std) (cut := none) (by kernel_rfl) (by kernel_rfl) (by kernel_rfl) run
end sIsRising


namespace cloS
def R : List AVal → Option (Bool × AVal × List Blk)
  | [.int .i64 i, .int .i64 k, .rom [.int .i64 p, .ro (.ints .i64 ws) m 1] 0, .rom [.ro (.ints .i64 xs) mx 1] 0] => some (decide (m = ws.length ∧ mx = xs.length ∧ (mx : Int) = p ∧ 0 ≤ i ∧ i < p ∧ 0 ≤ k ∧ k < p) && (wo.sp p ws && (xs.all fun x => decide (-1000 ≤ x) && decide (x ≤ 1000))), .int .i64 (co.wst.sv (fun S => co.cm.sv ws xs 1 S xs.length) (co.m2.sp i.toNat k.toNat) ws.length).1, [])
  | _ => none
theorem go (i k p : Int) (ws xs : List Int) :
  runFn Try.prog (orc [⟨71, worstM2.R⟩]) hd0 Dr.std none 0 (bodyOf Try.f79) 17 [6] [.int .i64 i, .int .i64 k, .rom [.int .i64 p, .ro (.ints .i64 ws) ws.length 1] 0, .rom [.ro (.ints .i64 xs) xs.length 1] 0] []
  = (bif decide (ws.length = ws.length ∧ xs.length = xs.length ∧ (↑xs.length : Int) = p ∧ (1 : Int) ≤ (1 : Int) ∧ (1 : Int) ≤ (1000 : Int) ∧ (80 : Nat) = (80 : FuncId) ∧ (0 : Int) ≤ i ∧ i < (6 : Int) ∧ (0 : Int) ≤ k ∧ k < (6 : Int)) && (wo.sp p ws && xs.all fun x => decide ((-1000000 : Int) ≤ x) && decide (x ≤ (1000000 : Int))) && (true && (true && true) && (true && false) || true && (true && true) && true) then some (AVal.int IntKind.i64 (co.wst.sv (fun S => co.cm.sv ws xs (1 : Int) S xs.length) (co.m2.sp i.toNat k.toNat) ws.length).1, [{ c := BC.cells [AVal.int IntKind.i64 i], ver := (0 : Nat) }, { c := BC.cells [AVal.int IntKind.i64 k], ver := (0 : Nat) }]) else none) := by kernel_rfl
theorem run : ∀ args v new, R args = some (true, v, new) → ∃ fuel, regc [] (runFn Try.prog (orc [⟨71, worstM2.R⟩]) hd0 Dr.std none fuel (bodyOf Try.f79) 17 [6] args []) = some (v, new) := by
  intro args v new h
  unfold R at h
  split at h
  · rename_i i k p ws m xs mx
    simp only [Option.some.injEq, Prod.mk.injEq, Bool.and_eq_true, decide_eq_true_eq] at h
    obtain ⟨⟨⟨rfl, rfl, hmp, h1, h2, h3, h4⟩, hs, hx⟩, rfl, rfl⟩ := h
    have hs2 := hs
    obtain ⟨p, rfl, hp, hw, h0, v⟩ := wo.valid hs2
    have h64 := wo.pow_le hp.2
    have h1p := wo.pow_pos p
    have hx2 : ∀ x ∈ xs, -1000 ≤ x ∧ x ≤ 1000 := by simpa only [List.all_eq_true, Bool.and_eq_true, decide_eq_true_eq] using hx
    have hxp : xs.length = p := by omega
    have hxb : (xs.all fun x => decide (-1000000 ≤ x) && decide (x ≤ 1000000)) = true := by
      simp only [List.all_eq_true, Bool.and_eq_true, decide_eq_true_eq]
      intro x hm; have := hx2 x hm; omega
    refine ⟨0, ?_⟩
    rw [go]
    simp -implicitDefEqProofs (disch := omega) only [hs, hxb, eq_self, take_one, set_one, decide_eq_true, decide_eq_false, IntWalk.i64_in, beqT, beqF, bneT, bneF, nat_succ, ← Int.natCast_mul, ← Int.natCast_add, Int.toNat_natCast, Int.zero_mul, Int.zero_add, Int.add_zero, Nat.zero_add, Nat.add_zero, Nat.zero_mul, List.length_singleton, List.length_append, List.length_nil, List.length_cons, List.take_length, List.drop_zero, List.replicate_zero, List.take_nil, List.nil_append, Nat.reduceBEq, Nat.reduceMul, Nat.reduceLeDiff, eq_self, and_self, true_and, and_true, decide_true, decide_false, Bool.and_self, Bool.or_self, Bool.and_true, Bool.true_and, Bool.and_false, Bool.false_and, Bool.or_true, Bool.true_or, Bool.or_false, Bool.false_or, Bool.not_true, Bool.not_false, cond_true, cond_false]
    rfl
  · cases h
theorem ok : EntOk Try.prog ⟨79, R⟩ :=
  ent_okAG (ks := []) mixed (A := (orc [⟨71, worstM2.R⟩])) (orc_ok (by simp only [List.mem_cons, List.not_mem_nil, or_false, forall_eq_or_imp, forall_eq]; exact worstM2.ok)) Try.func79 (by kernel_rfl) (by kernel_rfl) (n := 17) (ts := [6]) (hd := hd0) (dr := Dr.std) (cut := none) (by kernel_rfl) (by kernel_rfl) (by kernel_rfl) run
end cloS

namespace l03Surplus
def R : List AVal → Option (Bool × AVal × List Blk)
  | [.rom [.int .i64 p, .ro (.ints .i64 ws) m 1] 0, .ro (.ints .i64 xs) mx 1, .int .i64 i, .int .i64 k] => some (decide (m = ws.length ∧ mx = xs.length ∧ (mx : Int) = p ∧ 0 ≤ i ∧ i < p ∧ 0 ≤ k ∧ k < p) && (wo.sp p ws && (xs.all fun x => decide (-1000 ≤ x) && decide (x ≤ 1000))), .int .i64 (co.wst.sv (fun S => co.cm.sv ws xs 1 S xs.length) (co.m2.sp i.toNat k.toNat) ws.length).1, [])
  | _ => none
def hd : Nat → Head := fun _ => ⟨[0, 1, 2, 3, 9, 10, 17, 18], none⟩
noncomputable def L (f n : Nat) (s : State) := loopAt Try.prog (orc [⟨60, l03In.R⟩, ⟨118, l03Complaint.R⟩]) hd Dr.std 0 f (bodyOf Try.f83) 0 [true, true, true, false, true] (retK Try.prog [8] 0 none) n s
theorem start (p i k : Int) (ws xs : List Int) (f : Nat) :
  runFn Try.prog (orc [⟨60, l03In.R⟩, ⟨118, l03Complaint.R⟩]) hd Dr.std none f (bodyOf Try.f83) 44 [8] [.rom [.int .i64 p, .ro (.ints .i64 ws) ws.length 1] 0, .ro (.ints .i64 xs) xs.length 1, .int .i64 i, .int .i64 k] []
  = (L f f (mkS (44 : Nat) [((0 : Nat), AVal.rom [AVal.int IntKind.i64 p, AVal.ro (Cont.ints IntKind.i64 ws) ws.length (1 : Nat)] (0 : Nat)), ((1 : Nat), AVal.ro (Cont.ints IntKind.i64 xs) xs.length (1 : Nat)), ((2 : Nat), AVal.int IntKind.i64 i), ((3 : Nat), AVal.int IntKind.i64 k), ((9 : Nat), AVal.int IntKind.i64 (0 : Int)), ((10 : Nat), AVal.bool false), ((17 : Nat), AVal.int IntKind.i64 (↑ws.length : Int)), ((18 : Nat), AVal.int IntKind.i64 (0 : Int))] [])) := by kernel_rfl
theorem round (p i k mo l s : Int) (so : Bool) (ws xs : List Int) (f n : Nat) :
  L f (n + 1) (mkS 44 [(0, .rom [.int .i64 p, .ro (.ints .i64 ws) ws.length 1] 0), (1, .ro (.ints .i64 xs) xs.length 1), (2, .int .i64 i), (3, .int .i64 k), (9, .int .i64 mo), (10, .bool so), (17, .int .i64 l), (18, .int .i64 s)] [])
  = (bif decide (s < l) then bif decide ((0 : Int) ≤ s ∧ s < (64 : Int) ∧ (0 : Int) ≤ i ∧ i < (6 : Int)) && (true && (true && true) || true && true) then bif !wo.off.sp s.toNat i.toNat then bif decide ((0 : Int) ≤ s ∧ s < (64 : Int) ∧ (0 : Int) ≤ k ∧ k < (6 : Int)) && (true && (true && true) || true && true) then bif !!wo.off.sp s.toNat k.toNat then bif decide (ws.length = ws.length ∧ xs.length = xs.length ∧ (↑xs.length : Int) = p ∧ (1 : Int) ≤ (1 : Int) ∧ (1 : Int) ≤ (1000 : Int) ∧ (0 : Int) ≤ s ∧ s < (↑ws.length : Int)) && (wo.sp p ws && xs.all fun x => decide ((-1000000 : Int) ≤ x) && decide (x ≤ (1000000 : Int))) && (true && (true && true) && (true && (true && (true && true))) || true && true) then bif !so then L f n (mkS (44 : Nat) [((0 : Nat), AVal.rom [AVal.int IntKind.i64 p, AVal.ro (Cont.ints IntKind.i64 ws) ws.length (1 : Nat)] (0 : Nat)), ((1 : Nat), AVal.ro (Cont.ints IntKind.i64 xs) xs.length (1 : Nat)), ((2 : Nat), AVal.int IntKind.i64 i), ((3 : Nat), AVal.int IntKind.i64 k), ((9 : Nat), AVal.int IntKind.i64 (co.cm.sv ws xs (1 : Int) s.toNat xs.length)), ((10 : Nat), AVal.bool true), ((17 : Nat), AVal.int IntKind.i64 l), ((18 : Nat), AVal.int IntKind.i64 (IntKind.i64.wrap (s + (1 : Int))))] []) else bif decide (mo < co.cm.sv ws xs (1 : Int) s.toNat xs.length) then L f n (mkS (44 : Nat) [((0 : Nat), AVal.rom [AVal.int IntKind.i64 p, AVal.ro (Cont.ints IntKind.i64 ws) ws.length (1 : Nat)] (0 : Nat)), ((1 : Nat), AVal.ro (Cont.ints IntKind.i64 xs) xs.length (1 : Nat)), ((2 : Nat), AVal.int IntKind.i64 i), ((3 : Nat), AVal.int IntKind.i64 k), ((9 : Nat), AVal.int IntKind.i64 (co.cm.sv ws xs (1 : Int) s.toNat xs.length)), ((10 : Nat), AVal.bool true), ((17 : Nat), AVal.int IntKind.i64 l), ((18 : Nat), AVal.int IntKind.i64 (IntKind.i64.wrap (s + (1 : Int))))] []) else L f n (mkS (44 : Nat) [((0 : Nat), AVal.rom [AVal.int IntKind.i64 p, AVal.ro (Cont.ints IntKind.i64 ws) ws.length (1 : Nat)] (0 : Nat)), ((1 : Nat), AVal.ro (Cont.ints IntKind.i64 xs) xs.length (1 : Nat)), ((2 : Nat), AVal.int IntKind.i64 i), ((3 : Nat), AVal.int IntKind.i64 k), ((9 : Nat), AVal.int IntKind.i64 mo), ((10 : Nat), AVal.bool so), ((17 : Nat), AVal.int IntKind.i64 l), ((18 : Nat), AVal.int IntKind.i64 (IntKind.i64.wrap (s + (1 : Int))))] []) else none else L f n (mkS (44 : Nat) [((0 : Nat), AVal.rom [AVal.int IntKind.i64 p, AVal.ro (Cont.ints IntKind.i64 ws) ws.length (1 : Nat)] (0 : Nat)), ((1 : Nat), AVal.ro (Cont.ints IntKind.i64 xs) xs.length (1 : Nat)), ((2 : Nat), AVal.int IntKind.i64 i), ((3 : Nat), AVal.int IntKind.i64 k), ((9 : Nat), AVal.int IntKind.i64 mo), ((10 : Nat), AVal.bool so), ((17 : Nat), AVal.int IntKind.i64 l), ((18 : Nat), AVal.int IntKind.i64 (IntKind.i64.wrap (s + (1 : Int))))] []) else none else L f n (mkS (44 : Nat) [((0 : Nat), AVal.rom [AVal.int IntKind.i64 p, AVal.ro (Cont.ints IntKind.i64 ws) ws.length (1 : Nat)] (0 : Nat)), ((1 : Nat), AVal.ro (Cont.ints IntKind.i64 xs) xs.length (1 : Nat)), ((2 : Nat), AVal.int IntKind.i64 i), ((3 : Nat), AVal.int IntKind.i64 k), ((9 : Nat), AVal.int IntKind.i64 mo), ((10 : Nat), AVal.bool so), ((17 : Nat), AVal.int IntKind.i64 l), ((18 : Nat), AVal.int IntKind.i64 (IntKind.i64.wrap (s + (1 : Int))))] []) else none else some (AVal.int IntKind.i64 mo, [])) := by kernel_rfl
theorem loop (p i k : Nat) (ws xs : List Int) (f : Nat) (hs : wo.sp (p : Int) ws = true) (hxs : (xs.all fun x => decide (-1000000 ≤ x) && decide (x ≤ 1000000)) = true) (hxp : xs.length = p) (hl : ws.length ≤ 64) (hp : p ≤ 6) (hi : i < p) (hk0 : k < p) : ∀ (d s n : Nat), s + d = ws.length → d < n →
    L f n (mkS 44 [(0, .rom [.int .i64 ((p : Nat) : Int), .ro (.ints .i64 ws) ws.length 1] 0), (1, .ro (.ints .i64 xs) xs.length 1), (2, .int .i64 ((i : Nat) : Int)), (3, .int .i64 ((k : Nat) : Int)), (9, .int .i64 (co.sur.sv (fun S => co.cm.sv ws xs 1 S xs.length) (co.m2.sp i k) s).1), (10, .bool (co.sur.sv (fun S => co.cm.sv ws xs 1 S xs.length) (co.m2.sp i k) s).2), (17, .int .i64 ((ws.length : Nat) : Int)), (18, .int .i64 ((s : Nat) : Int))] []) = some (.int .i64 (co.sur.sv (fun S => co.cm.sv ws xs 1 S xs.length) (co.m2.sp i k) ws.length).1, []) := by
  intro d
  induction d with
  | zero =>
    intro s n hk hn
    obtain ⟨n, rfl⟩ : ∃ k, n = k + 1 := ⟨n - 1, by omega⟩
    obtain rfl : s = ws.length := by omega
    rw [round]
    simp -implicitDefEqProofs (disch := omega) only [take_one, set_one, decide_eq_true, decide_eq_false, IntWalk.i64_in, beqT, beqF, bneT, bneF, nat_succ, ← Int.natCast_mul, ← Int.natCast_add, Int.toNat_natCast, Int.zero_mul, Int.zero_add, Int.add_zero, Nat.zero_add, Nat.add_zero, Nat.zero_mul, List.length_singleton, List.length_append, List.length_nil, List.length_cons, List.take_length, List.drop_zero, List.replicate_zero, List.take_nil, List.nil_append, Nat.reduceBEq, Nat.reduceMul, Nat.reduceLeDiff, eq_self, and_self, true_and, and_true, decide_true, decide_false, Bool.and_self, Bool.or_self, Bool.and_true, Bool.true_and, Bool.and_false, Bool.false_and, Bool.or_true, Bool.true_or, Bool.or_false, Bool.false_or, Bool.not_true, Bool.not_false, cond_true, cond_false]
  | succ d ih =>
    intro s n hk hn
    obtain ⟨n, rfl⟩ : ∃ k, n = k + 1 := ⟨n - 1, by omega⟩
    have g := ih (s + 1) n (by omega) (by omega)
    rw [co.sur.sv] at g
    generalize co.sur.sv (fun S => co.cm.sv ws xs 1 S xs.length) (co.m2.sp i k) s = r at g ⊢
    obtain ⟨r1, r2⟩ := r
    rw [round]
    cases h1 : wo.off.sp s i with
    | true =>
      have hM : co.m2.sp i k s = false := by rw [co.m2.sp, h1]; rfl
      rw [hM, cond_false] at g
      simp -implicitDefEqProofs (disch := omega) only [h1, take_one, set_one, decide_eq_true, decide_eq_false, IntWalk.i64_in, beqT, beqF, bneT, bneF, nat_succ, ← Int.natCast_mul, ← Int.natCast_add, Int.toNat_natCast, Int.zero_mul, Int.zero_add, Int.add_zero, Nat.zero_add, Nat.add_zero, Nat.zero_mul, List.length_singleton, List.length_append, List.length_nil, List.length_cons, List.take_length, List.drop_zero, List.replicate_zero, List.take_nil, List.nil_append, Nat.reduceBEq, Nat.reduceMul, Nat.reduceLeDiff, eq_self, and_self, true_and, and_true, decide_true, decide_false, Bool.and_self, Bool.or_self, Bool.and_true, Bool.true_and, Bool.and_false, Bool.false_and, Bool.or_true, Bool.true_or, Bool.or_false, Bool.false_or, Bool.not_true, Bool.not_false, cond_true, cond_false]
      exact g
    | false =>
      cases h2 : wo.off.sp s k with
      | false =>
        have hM : co.m2.sp i k s = false := by rw [co.m2.sp, h1, h2]; rfl
        rw [hM, cond_false] at g
        simp -implicitDefEqProofs (disch := omega) only [hs, hxs, h1, h2, take_one, set_one, decide_eq_true, decide_eq_false, IntWalk.i64_in, beqT, beqF, bneT, bneF, nat_succ, ← Int.natCast_mul, ← Int.natCast_add, Int.toNat_natCast, Int.zero_mul, Int.zero_add, Int.add_zero, Nat.zero_add, Nat.add_zero, Nat.zero_mul, List.length_singleton, List.length_append, List.length_nil, List.length_cons, List.take_length, List.drop_zero, List.replicate_zero, List.take_nil, List.nil_append, Nat.reduceBEq, Nat.reduceMul, Nat.reduceLeDiff, eq_self, and_self, true_and, and_true, decide_true, decide_false, Bool.and_self, Bool.or_self, Bool.and_true, Bool.true_and, Bool.and_false, Bool.false_and, Bool.or_true, Bool.true_or, Bool.or_false, Bool.false_or, Bool.not_true, Bool.not_false, cond_true, cond_false]
        exact g
      | true =>
        have hM : co.m2.sp i k s = true := by rw [co.m2.sp, h1, h2]; rfl
        rw [hM, cond_true] at g
        cases r2 with
        | false =>
          rw [Bool.not_false, Bool.true_or, cond_true] at g
          simp -implicitDefEqProofs (disch := omega) only [hs, hxs, h1, h2, take_one, set_one, decide_eq_true, decide_eq_false, IntWalk.i64_in, beqT, beqF, bneT, bneF, nat_succ, ← Int.natCast_mul, ← Int.natCast_add, Int.toNat_natCast, Int.zero_mul, Int.zero_add, Int.add_zero, Nat.zero_add, Nat.add_zero, Nat.zero_mul, List.length_singleton, List.length_append, List.length_nil, List.length_cons, List.take_length, List.drop_zero, List.replicate_zero, List.take_nil, List.nil_append, Nat.reduceBEq, Nat.reduceMul, Nat.reduceLeDiff, eq_self, and_self, true_and, and_true, decide_true, decide_false, Bool.and_self, Bool.or_self, Bool.and_true, Bool.true_and, Bool.and_false, Bool.false_and, Bool.or_true, Bool.true_or, Bool.or_false, Bool.false_or, Bool.not_true, Bool.not_false, cond_true, cond_false]
          exact g
        | true =>
          by_cases c2 : r1 < co.cm.sv ws xs 1 s xs.length
          · rw [decide_eq_true c2, Bool.or_true, cond_true] at g
            simp -implicitDefEqProofs (disch := omega) only [hs, hxs, h1, h2, take_one, set_one, decide_eq_true, decide_eq_false, IntWalk.i64_in, beqT, beqF, bneT, bneF, nat_succ, ← Int.natCast_mul, ← Int.natCast_add, Int.toNat_natCast, Int.zero_mul, Int.zero_add, Int.add_zero, Nat.zero_add, Nat.add_zero, Nat.zero_mul, List.length_singleton, List.length_append, List.length_nil, List.length_cons, List.take_length, List.drop_zero, List.replicate_zero, List.take_nil, List.nil_append, Nat.reduceBEq, Nat.reduceMul, Nat.reduceLeDiff, eq_self, and_self, true_and, and_true, decide_true, decide_false, Bool.and_self, Bool.or_self, Bool.and_true, Bool.true_and, Bool.and_false, Bool.false_and, Bool.or_true, Bool.true_or, Bool.or_false, Bool.false_or, Bool.not_true, Bool.not_false, cond_true, cond_false]
            exact g
          · rw [decide_eq_false c2, Bool.not_true, Bool.or_false, cond_false] at g
            simp -implicitDefEqProofs (disch := omega) only [hs, hxs, h1, h2, take_one, set_one, decide_eq_true, decide_eq_false, IntWalk.i64_in, beqT, beqF, bneT, bneF, nat_succ, ← Int.natCast_mul, ← Int.natCast_add, Int.toNat_natCast, Int.zero_mul, Int.zero_add, Int.add_zero, Nat.zero_add, Nat.add_zero, Nat.zero_mul, List.length_singleton, List.length_append, List.length_nil, List.length_cons, List.take_length, List.drop_zero, List.replicate_zero, List.take_nil, List.nil_append, Nat.reduceBEq, Nat.reduceMul, Nat.reduceLeDiff, eq_self, and_self, true_and, and_true, decide_true, decide_false, Bool.and_self, Bool.or_self, Bool.and_true, Bool.true_and, Bool.and_false, Bool.false_and, Bool.or_true, Bool.true_or, Bool.or_false, Bool.false_or, Bool.not_true, Bool.not_false, cond_true, cond_false]
            exact g
theorem run : ∀ args v new, R args = some (true, v, new) → ∃ fuel, runFn Try.prog (orc [⟨60, l03In.R⟩, ⟨118, l03Complaint.R⟩]) hd Dr.std none fuel (bodyOf Try.f83) 44 [8] args [] = some (v, new) := by
  intro args v new h
  unfold R at h
  split at h
  · rename_i p ws m xs mx i k
    simp only [Option.some.injEq, Prod.mk.injEq, Bool.and_eq_true, decide_eq_true_eq] at h
    obtain ⟨⟨⟨rfl, rfl, hmp, h1, h2, h3, h4⟩, hs, hx⟩, rfl, rfl⟩ := h
    have hs2 := hs
    obtain ⟨p, rfl, hp, hw, h0, v⟩ := wo.valid hs2
    have h64 := wo.pow_le hp.2
    have h1p := wo.pow_pos p
    have hx2 : ∀ x ∈ xs, -1000 ≤ x ∧ x ≤ 1000 := by simpa only [List.all_eq_true, Bool.and_eq_true, decide_eq_true_eq] using hx
    have hxp : xs.length = p := by omega
    have hxb : (xs.all fun x => decide (-1000000 ≤ x) && decide (x ≤ 1000000)) = true := by
      simp only [List.all_eq_true, Bool.and_eq_true, decide_eq_true_eq]
      intro x hm; have := hx2 x hm; omega
    obtain ⟨i, rfl⟩ : ∃ q : Nat, i = q := ⟨i.toNat, by omega⟩
    obtain ⟨k, rfl⟩ : ∃ q : Nat, k = q := ⟨k.toNat, by omega⟩
    refine ⟨ws.length + 1, ?_⟩
    have g := loop p i k ws xs (ws.length + 1) hs hxb hxp (by omega) hp.2 (by omega) (by omega) ws.length 0 (ws.length + 1) (by omega) (by omega)
    rw [(co.sur_wst _ _ ws.length).1] at g
    rw [start, Int.toNat_natCast, Int.toNat_natCast]
    exact g
  · cases h
theorem ok : EntOk Try.prog ⟨83, R⟩ :=
  ent_okA mixed (A := (orc [⟨60, l03In.R⟩, ⟨118, l03Complaint.R⟩])) (orc_ok (by simp only [List.mem_cons, List.not_mem_nil, or_false, forall_eq_or_imp, forall_eq]; exact ⟨l03In.ok, l03Complaint.ok⟩)) Try.func83 (by kernel_rfl) (by kernel_rfl) (n := 44) (ts := [8]) (hd := hd) (dr := Dr.std) (cut := none) (by kernel_rfl) (by kernel_rfl) (by kernel_rfl) run
end l03Surplus

namespace l03Can
def R : List AVal → Option (Bool × AVal × List Blk)
  | [.rom [.int .i64 p, .ro (.ints .i64 ws) m 1] 0, .ro (.ints .i64 xs) mx 1, .int .i64 b] => some (decide (m = ws.length ∧ mx = xs.length ∧ (mx : Int) = p ∧ 1 ≤ b ∧ b ≤ 1000) && (wo.sp p ws && (xs.all fun x => decide (-1000000 ≤ x) && decide (x ≤ 1000000))), .bool true, [])
  | _ => none
def hd : Nat → Head := fun _ => ⟨[1, 6, 26, 27], none⟩
noncomputable def L (f n : Nat) (s : State) := loopAt Try.prog (orc [⟨59, l03Is.R⟩, ⟨77, l00In.R⟩]) hd Dr.std 0 f (bodyOf Try.f82) 0 [true, true, false, true] (retK Try.prog [6] 0 none) n s
theorem start (p b : Int) (ws xs : List Int) (f : Nat) :
  runFn Try.prog (orc [⟨59, l03Is.R⟩, ⟨77, l00In.R⟩]) hd Dr.std none f (bodyOf Try.f82) 37 [6] [.rom [.int .i64 p, .ro (.ints .i64 ws) ws.length 1] 0, .ro (.ints .i64 xs) xs.length 1, .int .i64 b] []
  = (bif decide (ws.length = ws.length) && wo.sp p ws && (true && (true && true) && true || true && true) then bif (↑xs.length : Int) != p then some (AVal.bool false, []) else bif true && (true && true || true && true) then bif !(decide ((1 : Int) ≤ b) && decide (b ≤ (1000 : Int))) then some (AVal.bool false, []) else L f f (mkS (37 : Nat) [((1 : Nat), AVal.ro (Cont.ints IntKind.i64 xs) xs.length (1 : Nat)), ((6 : Nat), AVal.bool false), ((26 : Nat), AVal.int IntKind.i64 (↑xs.length : Int)), ((27 : Nat), AVal.int IntKind.i64 (0 : Int))] []) else none else none) := by kernel_rfl
theorem round (l k : Int) (xs : List Int) (f n : Nat) :
  L f (n + 1) (mkS 37 [(1, .ro (.ints .i64 xs) xs.length 1), (6, .bool false), (26, .int .i64 l), (27, .int .i64 k)] [])
  = (bif decide (k < l) then bif true && (decide ((0 : Int) ≤ k) && decide (k < (↑xs.length : Int))) then bif decide (k.toNat < xs.length) then bif true && (true && true || true && true) then bif !(decide ((-1000000 : Int) ≤ gz xs k.toNat) && decide (gz xs k.toNat ≤ (1000000 : Int))) then some (AVal.bool false, []) else L f n (mkS (37 : Nat) [((1 : Nat), AVal.ro (Cont.ints IntKind.i64 xs) xs.length (1 : Nat)), ((6 : Nat), AVal.bool false), ((26 : Nat), AVal.int IntKind.i64 l), ((27 : Nat), AVal.int IntKind.i64 (IntKind.i64.wrap (k + (1 : Int))))] []) else none else none else none else some (AVal.bool true, [])) := by kernel_rfl
theorem loop (xs : List Int) (f : Nat) (hl : xs.length ≤ 6) (hx : ∀ x ∈ xs, -1000000 ≤ x ∧ x ≤ 1000000) : ∀ (d k n : Nat), k + d = xs.length → d < n →
    L f n (mkS 37 [(1, .ro (.ints .i64 xs) xs.length 1), (6, .bool false), (26, .int .i64 ((xs.length : Nat) : Int)), (27, .int .i64 ((k : Nat) : Int))] []) = some (.bool true, []) := by
  intro d
  induction d with
  | zero =>
    intro k n hk hn
    obtain ⟨n, rfl⟩ : ∃ k, n = k + 1 := ⟨n - 1, by omega⟩
    obtain rfl : k = xs.length := by omega
    rw [round]
    simp -implicitDefEqProofs (disch := omega) only [take_one, set_one, decide_eq_true, decide_eq_false, IntWalk.i64_in, beqT, beqF, bneT, bneF, nat_succ, ← Int.natCast_mul, ← Int.natCast_add, Int.toNat_natCast, Int.zero_mul, Int.zero_add, Int.add_zero, Nat.zero_add, Nat.add_zero, Nat.zero_mul, List.length_singleton, List.length_append, List.length_nil, List.length_cons, List.take_length, List.drop_zero, List.replicate_zero, List.take_nil, List.nil_append, Nat.reduceBEq, Nat.reduceMul, Nat.reduceLeDiff, eq_self, and_self, true_and, and_true, decide_true, decide_false, Bool.and_self, Bool.or_self, Bool.and_true, Bool.true_and, Bool.and_false, Bool.false_and, Bool.or_true, Bool.true_or, Bool.or_false, Bool.false_or, Bool.not_true, Bool.not_false, cond_true, cond_false]
  | succ d ih =>
    intro k n hk hn
    obtain ⟨n, rfl⟩ : ∃ k, n = k + 1 := ⟨n - 1, by omega⟩
    have g := ih (k + 1) n (by omega) (by omega)
    have b1 := hx _ (gz_mem (show k < xs.length by omega))
    rw [round]
    simp -implicitDefEqProofs (disch := omega) only [take_one, set_one, decide_eq_true, decide_eq_false, IntWalk.i64_in, beqT, beqF, bneT, bneF, nat_succ, ← Int.natCast_mul, ← Int.natCast_add, Int.toNat_natCast, Int.zero_mul, Int.zero_add, Int.add_zero, Nat.zero_add, Nat.add_zero, Nat.zero_mul, List.length_singleton, List.length_append, List.length_nil, List.length_cons, List.take_length, List.drop_zero, List.replicate_zero, List.take_nil, List.nil_append, Nat.reduceBEq, Nat.reduceMul, Nat.reduceLeDiff, eq_self, and_self, true_and, and_true, decide_true, decide_false, Bool.and_self, Bool.or_self, Bool.and_true, Bool.true_and, Bool.and_false, Bool.false_and, Bool.or_true, Bool.true_or, Bool.or_false, Bool.false_or, Bool.not_true, Bool.not_false, cond_true, cond_false]
    exact g
theorem run : ∀ args v new, R args = some (true, v, new) → ∃ fuel, runFn Try.prog (orc [⟨59, l03Is.R⟩, ⟨77, l00In.R⟩]) hd Dr.std none fuel (bodyOf Try.f82) 37 [6] args [] = some (v, new) := by
  intro args v new h
  unfold R at h
  split at h
  · rename_i p ws m xs mx b
    simp only [Option.some.injEq, Prod.mk.injEq, Bool.and_eq_true, decide_eq_true_eq] at h
    obtain ⟨⟨⟨rfl, rfl, hmp, hb1, hb2⟩, hs, hx⟩, rfl, rfl⟩ := h
    have hs2 := hs
    obtain ⟨p, rfl, hp, hw, h0, v⟩ := wo.valid hs2
    have h64 := wo.pow_le hp.2
    have h1p := wo.pow_pos p
    have hx2 : ∀ x ∈ xs, -1000000 ≤ x ∧ x ≤ 1000000 := by simpa only [List.all_eq_true, Bool.and_eq_true, decide_eq_true_eq] using hx
    have g := loop xs (xs.length + 1) (by omega) hx2 xs.length 0 (xs.length + 1) (by omega) (by omega)
    refine ⟨xs.length + 1, ?_⟩
    rw [start]
    simp -implicitDefEqProofs (disch := omega) only [hs, take_one, set_one, decide_eq_true, decide_eq_false, IntWalk.i64_in, beqT, beqF, bneT, bneF, nat_succ, ← Int.natCast_mul, ← Int.natCast_add, Int.toNat_natCast, Int.zero_mul, Int.zero_add, Int.add_zero, Nat.zero_add, Nat.add_zero, Nat.zero_mul, List.length_singleton, List.length_append, List.length_nil, List.length_cons, List.take_length, List.drop_zero, List.replicate_zero, List.take_nil, List.nil_append, Nat.reduceBEq, Nat.reduceMul, Nat.reduceLeDiff, eq_self, and_self, true_and, and_true, decide_true, decide_false, Bool.and_self, Bool.or_self, Bool.and_true, Bool.true_and, Bool.and_false, Bool.false_and, Bool.or_true, Bool.true_or, Bool.or_false, Bool.false_or, Bool.not_true, Bool.not_false, cond_true, cond_false]
    exact g
  · cases h
theorem ok : EntOk Try.prog ⟨82, R⟩ :=
  ent_okA mixed (A := (orc [⟨59, l03Is.R⟩, ⟨77, l00In.R⟩])) (orc_ok (by simp only [List.mem_cons, List.not_mem_nil, or_false, forall_eq_or_imp, forall_eq]; exact ⟨l03Is.ok, l00In.ok⟩)) Try.func82 (by kernel_rfl) (by kernel_rfl) (n := 37) (ts := [6]) (hd := hd) (dr := Dr.std) (cut := none) (by kernel_rfl) (by kernel_rfl) (by kernel_rfl) run
end l03Can

namespace clone
def R : List AVal → Option (Bool × AVal × List Blk)
  | [.ro (.ints .i64 xs) mx 1] => some (decide (mx = xs.length ∧ 1 ≤ mx ∧ mx ≤ 100), .own 0 0 xs.length 0 1, [⟨.typ (.ints .i64 xs), 0⟩])
  | _ => none
theorem go (xs : List Int) (k : Nat) :
  runFn Try.prog (orc []) hd0 Dr.std none 0 (bodyOf Try.f76) 8 [2] [.ro (.ints .i64 xs) (k + 1) 1] []
  = (bif (1 : Nat) == (1 : Nat) && (1 : Nat) == (1 : Nat) && (true && (true && true) && (true && (decide ((0 : Nat) + (List.take (k + (1 : Nat)) xs).length ≤ (4611686018427387904 : Nat)) && decide (((0 : Nat) + (List.take (k + (1 : Nat)) xs).length) * (8 : Nat) ≤ (140737488355328 : Nat))))) then some (AVal.own (0 : Nat) (0 : Nat) ((0 : Nat) + (List.take (k + (1 : Nat)) xs).length) (0 : Nat) (1 : Nat), [{ c := BC.typ (Cont.ints IntKind.i64 (List.take (0 : Nat) (List.replicate (0 : Nat) (0 : Int)) ++ List.take (k + (1 : Nat)) xs)), ver := (0 : Nat) }]) else none) := by kernel_rfl
theorem run : ∀ args v new, R args = some (true, v, new) → ∃ fuel, runFn Try.prog (orc []) hd0 Dr.std none fuel (bodyOf Try.f76) 8 [2] args [] = some (v, new) := by
  intro args v new h
  unfold R at h
  split at h
  · rename_i xs mx
    simp only [Option.some.injEq, Prod.mk.injEq, decide_eq_true_eq] at h
    obtain ⟨⟨rfl, h1, h2⟩, rfl, rfl⟩ := h
    obtain ⟨k, hk⟩ : ∃ k, xs.length = k + 1 := ⟨xs.length - 1, by omega⟩
    have ht : xs.take (k + 1) = xs := List.take_of_length_le (by omega)
    refine ⟨0, ?_⟩
    rw [hk, go]
    simp -implicitDefEqProofs (disch := omega) only [ht, hk, List.take_zero, List.nil_append, take_one, set_one, decide_eq_true, decide_eq_false, IntWalk.i64_in, beqT, beqF, bneT, bneF, nat_succ, ← Int.natCast_mul, ← Int.natCast_add, Int.toNat_natCast, Int.zero_mul, Int.zero_add, Int.add_zero, Nat.zero_add, Nat.add_zero, Nat.zero_mul, List.length_singleton, List.length_append, List.length_nil, List.length_cons, List.take_length, List.drop_zero, List.replicate_zero, List.take_nil, List.nil_append, Nat.reduceBEq, Nat.reduceMul, Nat.reduceLeDiff, eq_self, and_self, true_and, and_true, decide_true, decide_false, Bool.and_self, Bool.or_self, Bool.and_true, Bool.true_and, Bool.and_false, Bool.false_and, Bool.or_true, Bool.true_or, Bool.or_false, Bool.false_or, Bool.not_true, Bool.not_false, cond_true, cond_false]
    try rfl
  · cases h
theorem ok : EntOk Try.prog ⟨76, R⟩ :=
  ent_okA mixed (A := (orc [])) (orc_ok (by simp)) Try.func76 (by kernel_rfl) (by kernel_rfl) (n := 8) (ts := [2]) (hd := hd0) (dr := Dr.std) (cut := none) (by kernel_rfl) (by kernel_rfl) (by kernel_rfl) run
end clone

namespace co
def dk.sv (ws xs : List Int) (i k : Nat) : Int := (wst.sv (fun S => cm.sv ws xs 1 S xs.length) (m2.sp i k) ws.length).1 - (wst.sv (fun S => cm.sv ws xs 1 S xs.length) (m2.sp k i) ws.length).1
def step.sv (ws xs : List Int) : List Int := stp.sv xs (kou.sv (dk.sv ws xs) xs.length xs.length)
theorem dk_in {ws xs : List Int} (v : ∀ x ∈ ws, -10000 ≤ x ∧ x ≤ 10000) (hx : ∀ x ∈ xs, -1000 ≤ x ∧ x ≤ 1000) (hl : xs.length ≤ 6) (i k : Nat) : -40000 ≤ dk.sv ws xs i k ∧ dk.sv ws xs i k ≤ 40000 := by
  have hc : ∀ S, -20000 ≤ cm.sv ws xs 1 S xs.length ∧ cm.sv ws xs 1 S xs.length ≤ 20000 := fun S => by
    have := cm_in (S := S) (by decide : (0 : Int) ≤ 1000) v hx hl
    omega
  have h1 := wst_in (c := fun S => cm.sv ws xs 1 S xs.length) (M := m2.sp i k) (by decide : (0 : Int) ≤ 20000) hc ws.length
  have h2 := wst_in (c := fun S => cm.sv ws xs 1 S xs.length) (M := m2.sp k i) (by decide : (0 : Int) ≤ 20000) hc ws.length
  rw [dk.sv]; omega
theorem stp_big {xs : List Int} (hx : ∀ x ∈ xs, -1000 ≤ x ∧ x ≤ 1000) {h : Int} (h0 : 0 ≤ h) (h1 : h ≤ 40000) (t f : Nat) : ∀ x ∈ (xs.set t (gz xs t + h)).set f (gz xs f - h), -1000000 ≤ x ∧ x ≤ 1000000 := by
  intro x hm
  have g1 := gz_rng (by decide : (0 : Int) ≤ 1000) hx t
  have g2 := gz_rng (by decide : (0 : Int) ≤ 1000) hx f
  rcases List.mem_or_eq_of_mem_set hm with hm | rfl
  · rcases List.mem_or_eq_of_mem_set hm with hm | rfl
    · have := hx x hm; omega
    · omega
  · omega
end co

namespace iKernelStep
def R : List AVal → Option (Bool × AVal × List Blk)
  | [.agg [.int .i64 p, .ro (.ints .i64 ws) m 1], .ro (.ints .i64 xs) mx 1] => some (decide (m = ws.length ∧ mx = xs.length ∧ (mx : Int) = p ∧ 2 ≤ p) && (wo.sp p ws && (xs.all fun x => decide (-1000 ≤ x) && decide (x ≤ 1000))), .tup [.own 0 0 xs.length 0 1, .bool true], [⟨.typ (.ints .i64 (co.step.sv ws xs)), 0⟩])
  | _ => none
def hd : Nat → Head := fun i => bif eqN i 0 then ⟨[2, 3, 6, 7, 8, 9, 25, 26, 998], none⟩ else ⟨[2, 3, 6, 7, 8, 9, 10, 25, 26, 30, 31, 998], none⟩
noncomputable def L0 (f n : Nat) (s : State) := loopAt Try.prog (orc [⟨65, areShares.R⟩, ⟨79, cloS.R⟩, ⟨76, clone.R⟩, ⟨81, areWithin.R⟩]) hd Dr.std 0 f (bodyOf Try.f26) 0 [true, true, true, true, false, true] (retK Try.prog [4, 5] 0 none) n s
noncomputable def L2 (f n n2 : Nat) (s : State) := loopAt Try.prog (orc [⟨65, areShares.R⟩, ⟨79, cloS.R⟩, ⟨76, clone.R⟩, ⟨81, areWithin.R⟩]) hd Dr.std 0 f (bodyAt (bodyOf Try.f26) [true, true, true, true, false, true]) (curAt (bodyOf Try.f26) 0 [true, true, true, true, false, true]) [true, true, false, true, true] (iterK (normE 0 (hd (curAt (bodyOf Try.f26) 0 [true, true, true, true, false, true]))) (L0 f n) (contAt Try.prog (orc [⟨65, areShares.R⟩, ⟨79, cloS.R⟩, ⟨76, clone.R⟩, ⟨81, areWithin.R⟩]) hd Dr.std 0 f (bodyOf Try.f26) 0 [true, true, true, true, false, true] (retK Try.prog [4, 5] 0 none))) n2 s
theorem start (p : Int) (ws xs : List Int) (f : Nat) :
  runFn Try.prog (orc [⟨65, areShares.R⟩, ⟨79, cloS.R⟩, ⟨76, clone.R⟩, ⟨81, areWithin.R⟩]) hd Dr.std none f (bodyOf Try.f26) 82 [4, 5] [.agg [.int .i64 p, .ro (.ints .i64 ws) ws.length 1], .ro (.ints .i64 xs) xs.length 1] []
  = (bif true && true && (true && true && true) then bif true && true then bif decide (ws.length = ws.length ∧ xs.length = xs.length ∧ (↑xs.length : Int) = p ∧ (1 : Int) ≤ (1 : Int) ∧ (1 : Int) ≤ (1000 : Int)) && (wo.sp p ws && xs.all fun x => decide ((-1000000 : Int) ≤ x) && decide (x ≤ (1000000 : Int))) && (true && (true && true) && (true && true) || true && true) then bif true && true then bif decide (p < (2 : Int)) then some (AVal.tup [AVal.nils, AVal.bool false], [{ c := BC.cells [AVal.int IntKind.i64 p, AVal.ro (Cont.ints IntKind.i64 ws) ws.length (1 : Nat)], ver := (0 : Nat) }, { c := BC.cells [AVal.ro (Cont.ints IntKind.i64 xs) xs.length (1 : Nat)], ver := (0 : Nat) }]) else bif true && true then L0 f f (mkS (82 : Nat) [((2 : Nat), AVal.ptr (0 : Nat) (0 : Nat) (0 : Nat)), ((3 : Nat), AVal.ptr (1 : Nat) (0 : Nat) (0 : Nat)), ((6 : Nat), AVal.fn (79 : Nat) [AVal.ptr (0 : Nat) (0 : Nat) (0 : Nat), AVal.ptr (1 : Nat) (0 : Nat) (0 : Nat)]), ((7 : Nat), AVal.int IntKind.i64 (0 : Int)), ((8 : Nat), AVal.int IntKind.i64 (-1 : Int)), ((9 : Nat), AVal.int IntKind.i64 (-1 : Int)), ((25 : Nat), AVal.int IntKind.i64 p), ((26 : Nat), AVal.int IntKind.i64 (0 : Int))] [{ c := BC.cells [AVal.int IntKind.i64 p, AVal.ro (Cont.ints IntKind.i64 ws) ws.length (1 : Nat)], ver := (0 : Nat) }, { c := BC.cells [AVal.ro (Cont.ints IntKind.i64 xs) xs.length (1 : Nat)], ver := (0 : Nat) }]) else none else none else none else none else none) := by kernel_rfl
theorem round0 (p m t fr l i : Int) (ws xs : List Int) (f n : Nat) :
  L0 f (n + 1) (mkS 82 [(2, .ptr 0 0 0), (3, .ptr 1 0 0), (6, .fn 79 [.ptr 0 0 0, .ptr 1 0 0]), (7, .int .i64 m), (8, .int .i64 t), (9, .int .i64 fr), (25, .int .i64 l), (26, .int .i64 i)] [⟨.cells [.int .i64 p, .ro (.ints .i64 ws) ws.length 1], 0⟩, ⟨.cells [.ro (.ints .i64 xs) xs.length 1], 0⟩])
  = (bif decide (i < l) then bif true && true then L2 f n f (mkS (82 : Nat) [((2 : Nat), AVal.ptr (0 : Nat) (0 : Nat) (0 : Nat)), ((3 : Nat), AVal.ptr (1 : Nat) (0 : Nat) (0 : Nat)), ((6 : Nat), AVal.fn (79 : Nat) [AVal.ptr (0 : Nat) (0 : Nat) (0 : Nat), AVal.ptr (1 : Nat) (0 : Nat) (0 : Nat)]), ((7 : Nat), AVal.int IntKind.i64 m), ((8 : Nat), AVal.int IntKind.i64 t), ((9 : Nat), AVal.int IntKind.i64 fr), ((10 : Nat), AVal.int IntKind.i64 i), ((25 : Nat), AVal.int IntKind.i64 l), ((26 : Nat), AVal.int IntKind.i64 i), ((30 : Nat), AVal.int IntKind.i64 p), ((31 : Nat), AVal.int IntKind.i64 (0 : Int))] [{ c := BC.cells [AVal.int IntKind.i64 p, AVal.ro (Cont.ints IntKind.i64 ws) ws.length (1 : Nat)], ver := (0 : Nat) }, { c := BC.cells [AVal.ro (Cont.ints IntKind.i64 xs) xs.length (1 : Nat)], ver := (0 : Nat) }]) else none else bif true && true then bif decide (xs.length = xs.length ∧ (1 : Nat) ≤ xs.length ∧ xs.length ≤ (100 : Nat)) && (true && true || true && (true && true)) then bif decide ((2 : Int) ≤ m) then bif true && (decide ((0 : Int) ≤ t) && decide (t < (↑xs.length : Int))) then bif true && decide (t.toNat < xs.length) then bif true && (decide ((0 : Int) ≤ t) && decide (t < (↑xs.length : Int))) then bif true && (true && (decide (t.toNat < xs.length) && true)) then bif true && (decide ((0 : Int) ≤ fr) && decide (fr < (↑xs.length : Int))) then bif true && decide (fr.toNat < (xs.set t.toNat (IntKind.i64.wrap (gz xs t.toNat + IntKind.i64.wrap (m.tdiv (2 : Int))))).length) then bif true && (decide ((0 : Int) ≤ fr) && decide (fr < (↑xs.length : Int))) then bif true && (true && (decide (fr.toNat < (xs.set t.toNat (IntKind.i64.wrap (gz xs t.toNat + IntKind.i64.wrap (m.tdiv (2 : Int))))).length) && true)) then bif decide (xs.length ≤ ((xs.set t.toNat (IntKind.i64.wrap (gz xs t.toNat + IntKind.i64.wrap (m.tdiv (2 : Int))))).set fr.toNat (IntKind.i64.wrap (gz (xs.set t.toNat (IntKind.i64.wrap (gz xs t.toNat + IntKind.i64.wrap (m.tdiv (2 : Int))))) fr.toNat - IntKind.i64.wrap (m.tdiv (2 : Int))))).length ∧ xs.length ≤ (4611686018427387904 : Nat)) && (false && true || true && true) then bif !(List.take xs.length ((xs.set t.toNat (IntKind.i64.wrap (gz xs t.toNat + IntKind.i64.wrap (m.tdiv (2 : Int))))).set fr.toNat (IntKind.i64.wrap (gz (xs.set t.toNat (IntKind.i64.wrap (gz xs t.toNat + IntKind.i64.wrap (m.tdiv (2 : Int))))) fr.toNat - IntKind.i64.wrap (m.tdiv (2 : Int)))))).all fun x => decide ((-1000000 : Int) ≤ x) && decide (x ≤ (1000000 : Int)) then some (AVal.tup [AVal.nils, AVal.bool false], [{ c := BC.cells [AVal.int IntKind.i64 p, AVal.ro (Cont.ints IntKind.i64 ws) ws.length (1 : Nat)], ver := (0 : Nat) }, { c := BC.cells [AVal.ro (Cont.ints IntKind.i64 xs) xs.length (1 : Nat)], ver := (0 : Nat) }, { c := BC.typ (Cont.ints IntKind.i64 ((xs.set t.toNat (IntKind.i64.wrap (gz xs t.toNat + IntKind.i64.wrap (m.tdiv (2 : Int))))).set fr.toNat (IntKind.i64.wrap (gz (xs.set t.toNat (IntKind.i64.wrap (gz xs t.toNat + IntKind.i64.wrap (m.tdiv (2 : Int))))) fr.toNat - IntKind.i64.wrap (m.tdiv (2 : Int)))))), ver := (0 : Nat) }]) else some (AVal.tup [AVal.own ((1 : Nat) + (1 : Nat) + (0 : Nat)) (0 : Nat) xs.length (0 : Nat) (1 : Nat), AVal.bool true], [{ c := BC.cells [AVal.int IntKind.i64 p, AVal.ro (Cont.ints IntKind.i64 ws) ws.length (1 : Nat)], ver := (0 : Nat) }, { c := BC.cells [AVal.ro (Cont.ints IntKind.i64 xs) xs.length (1 : Nat)], ver := (0 : Nat) }, { c := BC.typ (Cont.ints IntKind.i64 ((xs.set t.toNat (IntKind.i64.wrap (gz xs t.toNat + IntKind.i64.wrap (m.tdiv (2 : Int))))).set fr.toNat (IntKind.i64.wrap (gz (xs.set t.toNat (IntKind.i64.wrap (gz xs t.toNat + IntKind.i64.wrap (m.tdiv (2 : Int))))) fr.toNat - IntKind.i64.wrap (m.tdiv (2 : Int)))))), ver := (0 : Nat) }]) else none else none else none else none else none else none else none else none else none else bif decide (xs.length ≤ xs.length ∧ xs.length ≤ (4611686018427387904 : Nat)) && (false && true || true && true) then bif !(List.take xs.length xs).all fun x => decide ((-1000000 : Int) ≤ x) && decide (x ≤ (1000000 : Int)) then some (AVal.tup [AVal.nils, AVal.bool false], [{ c := BC.cells [AVal.int IntKind.i64 p, AVal.ro (Cont.ints IntKind.i64 ws) ws.length (1 : Nat)], ver := (0 : Nat) }, { c := BC.cells [AVal.ro (Cont.ints IntKind.i64 xs) xs.length (1 : Nat)], ver := (0 : Nat) }, { c := BC.typ (Cont.ints IntKind.i64 xs), ver := (0 : Nat) }]) else some (AVal.tup [AVal.own ((1 : Nat) + (1 : Nat) + (0 : Nat)) (0 : Nat) xs.length (0 : Nat) (1 : Nat), AVal.bool true], [{ c := BC.cells [AVal.int IntKind.i64 p, AVal.ro (Cont.ints IntKind.i64 ws) ws.length (1 : Nat)], ver := (0 : Nat) }, { c := BC.cells [AVal.ro (Cont.ints IntKind.i64 xs) xs.length (1 : Nat)], ver := (0 : Nat) }, { c := BC.typ (Cont.ints IntKind.i64 xs), ver := (0 : Nat) }]) else none else none else none) := by kernel_rfl
theorem round2 (p m t fr l i c k : Int) (ws xs : List Int) (f n n2 : Nat) :
  L2 f n (n2 + 1) (mkS 82 [(2, .ptr 0 0 0), (3, .ptr 1 0 0), (6, .fn 79 [.ptr 0 0 0, .ptr 1 0 0]), (7, .int .i64 m), (8, .int .i64 t), (9, .int .i64 fr), (10, .int .i64 i), (25, .int .i64 l), (26, .int .i64 i), (30, .int .i64 c), (31, .int .i64 k)] [⟨.cells [.int .i64 p, .ro (.ints .i64 ws) ws.length 1], 0⟩, ⟨.cells [.ro (.ints .i64 xs) xs.length 1], 0⟩])
  = (bif decide (k < c) then bif i == k then L2 f n n2 (mkS (82 : Nat) [((2 : Nat), AVal.ptr (0 : Nat) (0 : Nat) (0 : Nat)), ((3 : Nat), AVal.ptr (1 : Nat) (0 : Nat) (0 : Nat)), ((6 : Nat), AVal.fn (79 : Nat) [AVal.ptr (0 : Nat) (0 : Nat) (0 : Nat), AVal.ptr (1 : Nat) (0 : Nat) (0 : Nat)]), ((7 : Nat), AVal.int IntKind.i64 m), ((8 : Nat), AVal.int IntKind.i64 t), ((9 : Nat), AVal.int IntKind.i64 fr), ((10 : Nat), AVal.int IntKind.i64 i), ((25 : Nat), AVal.int IntKind.i64 l), ((26 : Nat), AVal.int IntKind.i64 i), ((30 : Nat), AVal.int IntKind.i64 c), ((31 : Nat), AVal.int IntKind.i64 (IntKind.i64.wrap (k + (1 : Int))))] [{ c := BC.cells [AVal.int IntKind.i64 p, AVal.ro (Cont.ints IntKind.i64 ws) ws.length (1 : Nat)], ver := (0 : Nat) }, { c := BC.cells [AVal.ro (Cont.ints IntKind.i64 xs) xs.length (1 : Nat)], ver := (0 : Nat) }]) else bif decide (ws.length = ws.length ∧ xs.length = xs.length ∧ (↑xs.length : Int) = p ∧ (0 : Int) ≤ i ∧ i < p ∧ (0 : Int) ≤ k ∧ k < p) && (wo.sp p ws && xs.all fun x => decide ((-1000 : Int) ≤ x) && decide (x ≤ (1000 : Int))) && (true && (true && false) || true && true) then bif decide (ws.length = ws.length ∧ xs.length = xs.length ∧ (↑xs.length : Int) = p ∧ (0 : Int) ≤ k ∧ k < p ∧ (0 : Int) ≤ i ∧ i < p) && (wo.sp p ws && xs.all fun x => decide ((-1000 : Int) ≤ x) && decide (x ≤ (1000 : Int))) && (true && (true && false) || true && true) then bif decide (t < (0 : Int)) then L2 f n n2 (mkS (82 : Nat) [((2 : Nat), AVal.ptr (0 : Nat) (0 : Nat) (0 : Nat)), ((3 : Nat), AVal.ptr (1 : Nat) (0 : Nat) (0 : Nat)), ((6 : Nat), AVal.fn (79 : Nat) [AVal.ptr (0 : Nat) (0 : Nat) (0 : Nat), AVal.ptr (1 : Nat) (0 : Nat) (0 : Nat)]), ((7 : Nat), AVal.int IntKind.i64 (IntKind.i64.wrap ((co.wst.sv (fun S => co.cm.sv ws xs (1 : Int) S xs.length) (co.m2.sp i.toNat k.toNat) ws.length).1 - (co.wst.sv (fun S => co.cm.sv ws xs (1 : Int) S xs.length) (co.m2.sp k.toNat i.toNat) ws.length).1))), ((8 : Nat), AVal.int IntKind.i64 i), ((9 : Nat), AVal.int IntKind.i64 k), ((10 : Nat), AVal.int IntKind.i64 i), ((25 : Nat), AVal.int IntKind.i64 l), ((26 : Nat), AVal.int IntKind.i64 i), ((30 : Nat), AVal.int IntKind.i64 c), ((31 : Nat), AVal.int IntKind.i64 (IntKind.i64.wrap (k + (1 : Int))))] [{ c := BC.cells [AVal.int IntKind.i64 p, AVal.ro (Cont.ints IntKind.i64 ws) ws.length (1 : Nat)], ver := (0 : Nat) }, { c := BC.cells [AVal.ro (Cont.ints IntKind.i64 xs) xs.length (1 : Nat)], ver := (0 : Nat) }]) else bif decide (m < IntKind.i64.wrap ((co.wst.sv (fun S => co.cm.sv ws xs (1 : Int) S xs.length) (co.m2.sp i.toNat k.toNat) ws.length).1 - (co.wst.sv (fun S => co.cm.sv ws xs (1 : Int) S xs.length) (co.m2.sp k.toNat i.toNat) ws.length).1)) then L2 f n n2 (mkS (82 : Nat) [((2 : Nat), AVal.ptr (0 : Nat) (0 : Nat) (0 : Nat)), ((3 : Nat), AVal.ptr (1 : Nat) (0 : Nat) (0 : Nat)), ((6 : Nat), AVal.fn (79 : Nat) [AVal.ptr (0 : Nat) (0 : Nat) (0 : Nat), AVal.ptr (1 : Nat) (0 : Nat) (0 : Nat)]), ((7 : Nat), AVal.int IntKind.i64 (IntKind.i64.wrap ((co.wst.sv (fun S => co.cm.sv ws xs (1 : Int) S xs.length) (co.m2.sp i.toNat k.toNat) ws.length).1 - (co.wst.sv (fun S => co.cm.sv ws xs (1 : Int) S xs.length) (co.m2.sp k.toNat i.toNat) ws.length).1))), ((8 : Nat), AVal.int IntKind.i64 i), ((9 : Nat), AVal.int IntKind.i64 k), ((10 : Nat), AVal.int IntKind.i64 i), ((25 : Nat), AVal.int IntKind.i64 l), ((26 : Nat), AVal.int IntKind.i64 i), ((30 : Nat), AVal.int IntKind.i64 c), ((31 : Nat), AVal.int IntKind.i64 (IntKind.i64.wrap (k + (1 : Int))))] [{ c := BC.cells [AVal.int IntKind.i64 p, AVal.ro (Cont.ints IntKind.i64 ws) ws.length (1 : Nat)], ver := (0 : Nat) }, { c := BC.cells [AVal.ro (Cont.ints IntKind.i64 xs) xs.length (1 : Nat)], ver := (0 : Nat) }]) else L2 f n n2 (mkS (82 : Nat) [((2 : Nat), AVal.ptr (0 : Nat) (0 : Nat) (0 : Nat)), ((3 : Nat), AVal.ptr (1 : Nat) (0 : Nat) (0 : Nat)), ((6 : Nat), AVal.fn (79 : Nat) [AVal.ptr (0 : Nat) (0 : Nat) (0 : Nat), AVal.ptr (1 : Nat) (0 : Nat) (0 : Nat)]), ((7 : Nat), AVal.int IntKind.i64 m), ((8 : Nat), AVal.int IntKind.i64 t), ((9 : Nat), AVal.int IntKind.i64 fr), ((10 : Nat), AVal.int IntKind.i64 i), ((25 : Nat), AVal.int IntKind.i64 l), ((26 : Nat), AVal.int IntKind.i64 i), ((30 : Nat), AVal.int IntKind.i64 c), ((31 : Nat), AVal.int IntKind.i64 (IntKind.i64.wrap (k + (1 : Int))))] [{ c := BC.cells [AVal.int IntKind.i64 p, AVal.ro (Cont.ints IntKind.i64 ws) ws.length (1 : Nat)], ver := (0 : Nat) }, { c := BC.cells [AVal.ro (Cont.ints IntKind.i64 xs) xs.length (1 : Nat)], ver := (0 : Nat) }]) else none else none else L0 f n (mkS (82 : Nat) [((2 : Nat), AVal.ptr (0 : Nat) (0 : Nat) (0 : Nat)), ((3 : Nat), AVal.ptr (1 : Nat) (0 : Nat) (0 : Nat)), ((6 : Nat), AVal.fn (79 : Nat) [AVal.ptr (0 : Nat) (0 : Nat) (0 : Nat), AVal.ptr (1 : Nat) (0 : Nat) (0 : Nat)]), ((7 : Nat), AVal.int IntKind.i64 m), ((8 : Nat), AVal.int IntKind.i64 t), ((9 : Nat), AVal.int IntKind.i64 fr), ((25 : Nat), AVal.int IntKind.i64 l), ((26 : Nat), AVal.int IntKind.i64 (IntKind.i64.wrap (i + (1 : Int))))] [{ c := BC.cells [AVal.int IntKind.i64 p, AVal.ro (Cont.ints IntKind.i64 ws) ws.length (1 : Nat)], ver := (0 : Nat) }, { c := BC.cells [AVal.ro (Cont.ints IntKind.i64 xs) xs.length (1 : Nat)], ver := (0 : Nat) }])) := by kernel_rfl
theorem loop2 (p i : Nat) (r : co.Kr) (ws xs : List Int) (f n : Nat) (hs : wo.sp (p : Int) ws = true) (hx : (xs.all fun x => decide (-1000 ≤ x) && decide (x ≤ 1000)) = true) (hxp : xs.length = p) (hp : p ≤ 6) (hD : ∀ i k, -40000 ≤ co.dk.sv ws xs i k ∧ co.dk.sv ws xs i k ≤ 40000) (hi : i < p) : ∀ (d k n2 : Nat), k + d = p → d < n2 →
    L2 f n n2 (mkS 82 [(2, .ptr 0 0 0), (3, .ptr 1 0 0), (6, .fn 79 [.ptr 0 0 0, .ptr 1 0 0]), (7, .int .i64 (co.kin.sv (co.dk.sv ws xs) i r k).m), (8, .int .i64 (co.kin.sv (co.dk.sv ws xs) i r k).to), (9, .int .i64 (co.kin.sv (co.dk.sv ws xs) i r k).fr), (10, .int .i64 ((i : Nat) : Int)), (25, .int .i64 ((p : Nat) : Int)), (26, .int .i64 ((i : Nat) : Int)), (30, .int .i64 ((p : Nat) : Int)), (31, .int .i64 ((k : Nat) : Int))] [⟨.cells [.int .i64 ((p : Nat) : Int), .ro (.ints .i64 ws) ws.length 1], 0⟩, ⟨.cells [.ro (.ints .i64 xs) xs.length 1], 0⟩]) = L0 f n (mkS 82 [(2, .ptr 0 0 0), (3, .ptr 1 0 0), (6, .fn 79 [.ptr 0 0 0, .ptr 1 0 0]), (7, .int .i64 (co.kin.sv (co.dk.sv ws xs) i r p).m), (8, .int .i64 (co.kin.sv (co.dk.sv ws xs) i r p).to), (9, .int .i64 (co.kin.sv (co.dk.sv ws xs) i r p).fr), (25, .int .i64 ((p : Nat) : Int)), (26, .int .i64 ((i + 1 : Nat) : Int))] [⟨.cells [.int .i64 ((p : Nat) : Int), .ro (.ints .i64 ws) ws.length 1], 0⟩, ⟨.cells [.ro (.ints .i64 xs) xs.length 1], 0⟩]) := by
  intro d
  induction d with
  | zero =>
    intro k n2 hk hn
    obtain ⟨n2, rfl⟩ : ∃ k, n2 = k + 1 := ⟨n2 - 1, by omega⟩
    obtain rfl : k = p := by omega
    rw [round2]
    simp -implicitDefEqProofs (disch := omega) only [take_one, set_one, decide_eq_true, decide_eq_false, IntWalk.i64_in, beqT, beqF, bneT, bneF, nat_succ, ← Int.natCast_mul, ← Int.natCast_add, Int.toNat_natCast, Int.zero_mul, Int.zero_add, Int.add_zero, Nat.zero_add, Nat.add_zero, Nat.zero_mul, List.length_singleton, List.length_append, List.length_nil, List.length_cons, List.take_length, List.drop_zero, List.replicate_zero, List.take_nil, List.nil_append, Nat.reduceBEq, Nat.reduceMul, Nat.reduceLeDiff, eq_self, and_self, true_and, and_true, decide_true, decide_false, Bool.and_self, Bool.or_self, Bool.and_true, Bool.true_and, Bool.and_false, Bool.false_and, Bool.or_true, Bool.true_or, Bool.or_false, Bool.false_or, Bool.not_true, Bool.not_false, cond_true, cond_false]
  | succ d ih =>
    intro k n2 hk hn
    obtain ⟨n2, rfl⟩ : ∃ k, n2 = k + 1 := ⟨n2 - 1, by omega⟩
    have g := ih (k + 1) n2 (by omega) (by omega)
    have e1 : (co.wst.sv (fun S => co.cm.sv ws xs 1 S xs.length) (co.m2.sp i k) ws.length).1 - (co.wst.sv (fun S => co.cm.sv ws xs 1 S xs.length) (co.m2.sp k i) ws.length).1 = co.dk.sv ws xs i k := rfl
    have e2 := hD i k
    rw [co.kin.sv] at g
    generalize co.kin.sv (co.dk.sv ws xs) i r k = q at g ⊢
    rw [round2]
    by_cases c : i = k
    · rw [decide_eq_true c, cond_true] at g
      simp -implicitDefEqProofs (disch := omega) only [hs, hx, e1, take_one, set_one, decide_eq_true, decide_eq_false, IntWalk.i64_in, beqT, beqF, bneT, bneF, nat_succ, ← Int.natCast_mul, ← Int.natCast_add, Int.toNat_natCast, Int.zero_mul, Int.zero_add, Int.add_zero, Nat.zero_add, Nat.add_zero, Nat.zero_mul, List.length_singleton, List.length_append, List.length_nil, List.length_cons, List.take_length, List.drop_zero, List.replicate_zero, List.take_nil, List.nil_append, Nat.reduceBEq, Nat.reduceMul, Nat.reduceLeDiff, eq_self, and_self, true_and, and_true, decide_true, decide_false, Bool.and_self, Bool.or_self, Bool.and_true, Bool.true_and, Bool.and_false, Bool.false_and, Bool.or_true, Bool.true_or, Bool.or_false, Bool.false_or, Bool.not_true, Bool.not_false, cond_true, cond_false]
      exact g
    · rw [decide_eq_false c, cond_false] at g
      by_cases c1 : q.to < 0
      · rw [decide_eq_true c1, Bool.true_or, cond_true] at g
        simp -implicitDefEqProofs (disch := omega) only [hs, hx, e1, take_one, set_one, decide_eq_true, decide_eq_false, IntWalk.i64_in, beqT, beqF, bneT, bneF, nat_succ, ← Int.natCast_mul, ← Int.natCast_add, Int.toNat_natCast, Int.zero_mul, Int.zero_add, Int.add_zero, Nat.zero_add, Nat.add_zero, Nat.zero_mul, List.length_singleton, List.length_append, List.length_nil, List.length_cons, List.take_length, List.drop_zero, List.replicate_zero, List.take_nil, List.nil_append, Nat.reduceBEq, Nat.reduceMul, Nat.reduceLeDiff, eq_self, and_self, true_and, and_true, decide_true, decide_false, Bool.and_self, Bool.or_self, Bool.and_true, Bool.true_and, Bool.and_false, Bool.false_and, Bool.or_true, Bool.true_or, Bool.or_false, Bool.false_or, Bool.not_true, Bool.not_false, cond_true, cond_false]
        exact g
      · by_cases c2 : q.m < co.dk.sv ws xs i k
        · rw [decide_eq_true c2, Bool.or_true, cond_true] at g
          simp -implicitDefEqProofs (disch := omega) only [hs, hx, e1, take_one, set_one, decide_eq_true, decide_eq_false, IntWalk.i64_in, beqT, beqF, bneT, bneF, nat_succ, ← Int.natCast_mul, ← Int.natCast_add, Int.toNat_natCast, Int.zero_mul, Int.zero_add, Int.add_zero, Nat.zero_add, Nat.add_zero, Nat.zero_mul, List.length_singleton, List.length_append, List.length_nil, List.length_cons, List.take_length, List.drop_zero, List.replicate_zero, List.take_nil, List.nil_append, Nat.reduceBEq, Nat.reduceMul, Nat.reduceLeDiff, eq_self, and_self, true_and, and_true, decide_true, decide_false, Bool.and_self, Bool.or_self, Bool.and_true, Bool.true_and, Bool.and_false, Bool.false_and, Bool.or_true, Bool.true_or, Bool.or_false, Bool.false_or, Bool.not_true, Bool.not_false, cond_true, cond_false]
          exact g
        · rw [decide_eq_false c1, decide_eq_false c2, Bool.or_false, cond_false] at g
          simp -implicitDefEqProofs (disch := omega) only [hs, hx, e1, take_one, set_one, decide_eq_true, decide_eq_false, IntWalk.i64_in, beqT, beqF, bneT, bneF, nat_succ, ← Int.natCast_mul, ← Int.natCast_add, Int.toNat_natCast, Int.zero_mul, Int.zero_add, Int.add_zero, Nat.zero_add, Nat.add_zero, Nat.zero_mul, List.length_singleton, List.length_append, List.length_nil, List.length_cons, List.take_length, List.drop_zero, List.replicate_zero, List.take_nil, List.nil_append, Nat.reduceBEq, Nat.reduceMul, Nat.reduceLeDiff, eq_self, and_self, true_and, and_true, decide_true, decide_false, Bool.and_self, Bool.or_self, Bool.and_true, Bool.true_and, Bool.and_false, Bool.false_and, Bool.or_true, Bool.true_or, Bool.or_false, Bool.false_or, Bool.not_true, Bool.not_false, cond_true, cond_false]
          exact g
theorem loop0 (p : Nat) (ws xs : List Int) (f : Nat) (hs : wo.sp (p : Int) ws = true) (hx : (xs.all fun x => decide (-1000 ≤ x) && decide (x ≤ 1000)) = true) (hxp : xs.length = p) (hp : p ≤ 6) (hD : ∀ i k, -40000 ≤ co.dk.sv ws xs i k ∧ co.dk.sv ws xs i k ≤ 40000) (h2p : 2 ≤ p) (hf : p < f) : ∀ (d i n : Nat), i + d = p → d < n →
    regc [2] (L0 f n (mkS 82 [(2, .ptr 0 0 0), (3, .ptr 1 0 0), (6, .fn 79 [.ptr 0 0 0, .ptr 1 0 0]), (7, .int .i64 (co.kou.sv (co.dk.sv ws xs) p i).m), (8, .int .i64 (co.kou.sv (co.dk.sv ws xs) p i).to), (9, .int .i64 (co.kou.sv (co.dk.sv ws xs) p i).fr), (25, .int .i64 ((p : Nat) : Int)), (26, .int .i64 ((i : Nat) : Int))] [⟨.cells [.int .i64 ((p : Nat) : Int), .ro (.ints .i64 ws) ws.length 1], 0⟩, ⟨.cells [.ro (.ints .i64 xs) xs.length 1], 0⟩])) = some (.tup [.own 0 0 xs.length 0 1, .bool true], [⟨.typ (.ints .i64 (co.step.sv ws xs)), 0⟩]) := by
  intro d
  induction d with
  | zero =>
    intro i n hk hn
    obtain ⟨n, rfl⟩ : ∃ k, n = k + 1 := ⟨n - 1, by omega⟩
    obtain rfl : i = p := by omega
    have hxx : ∀ x ∈ xs, -1000 ≤ x ∧ x ≤ 1000 := by simpa only [List.all_eq_true, Bool.and_eq_true, decide_eq_true_eq] using hx
    have ht : xs.take xs.length = xs := List.take_of_length_le (Nat.le_refl _)
    have hstep : co.step.sv ws xs = co.stp.sv xs (co.kou.sv (co.dk.sv ws xs) i i) := by rw [co.step.sv, hxp]
    have hk := co.kou_ok hD (p := i) i (Nat.le_refl _)
    rw [hstep]
    generalize co.kou.sv (co.dk.sv ws xs) i i = q at hk ⊢
    by_cases c : 2 ≤ q.m
    · rcases hk with ⟨_, _, h3⟩ | ⟨t, fr, h1, h2, h3, h4, h5, h6, h7⟩
      · omega
      obtain ⟨h, hh⟩ : ∃ h, q.m.tdiv 2 = h := ⟨_, rfl⟩
      have hb : 0 ≤ h ∧ h ≤ 40000 := by rw [← hh, Int.tdiv_eq_ediv_of_nonneg (by omega)]; omega
      have hst : co.stp.sv xs q = (xs.set t (gz xs t + h)).set fr (gz xs fr - h) := by
        rw [co.stp.sv, decide_eq_true c, cond_true, h1, h2, Int.toNat_natCast, Int.toNat_natCast, hh]
      have hgs : ∀ v : Int, gz (xs.set t v) fr = gz xs fr := fun v => by rw [gz_set (by omega), if_neg h5]
      have g1 := co.gz_rng (by decide : (0 : Int) ≤ 1000) hxx t
      have g2 := co.gz_rng (by decide : (0 : Int) ≤ 1000) hxx fr
      have hbig := co.stp_big hxx hb.1 hb.2 t fr
      have hl2 : ((xs.set t (gz xs t + h)).set fr (gz xs fr - h)).length = xs.length := by rw [List.length_set, List.length_set]
      rw [hst]
      have hall : (((xs.set t (gz xs t + h)).set fr (gz xs fr - h)).all fun x => decide (-1000000 ≤ x) && decide (x ≤ 1000000)) = true := by
        simp only [List.all_eq_true, Bool.and_eq_true, decide_eq_true_eq]; exact hbig
      have ht2 : ((xs.set t (gz xs t + h)).set fr (gz xs fr - h)).take xs.length = (xs.set t (gz xs t + h)).set fr (gz xs fr - h) := List.take_of_length_le (by omega)
      rw [round0]
      simp -implicitDefEqProofs (disch := omega) only [h1, h2, hh, hgs, List.length_set, hall, ht2, hl2, take_one, set_one, decide_eq_true, decide_eq_false, IntWalk.i64_in, beqT, beqF, bneT, bneF, nat_succ, ← Int.natCast_mul, ← Int.natCast_add, Int.toNat_natCast, Int.zero_mul, Int.zero_add, Int.add_zero, Nat.zero_add, Nat.add_zero, Nat.zero_mul, List.length_singleton, List.length_append, List.length_nil, List.length_cons, List.take_length, List.drop_zero, List.replicate_zero, List.take_nil, List.nil_append, Nat.reduceBEq, Nat.reduceMul, Nat.reduceLeDiff, eq_self, and_self, true_and, and_true, decide_true, decide_false, Bool.and_self, Bool.or_self, Bool.and_true, Bool.true_and, Bool.and_false, Bool.false_and, Bool.or_true, Bool.true_or, Bool.or_false, Bool.false_or, Bool.not_true, Bool.not_false, cond_true, cond_false]
      rfl
    have hst : co.stp.sv xs q = xs := by rw [co.stp.sv, decide_eq_false c, cond_false]
    have hall : (xs.all fun x => decide (-1000000 ≤ x) && decide (x ≤ 1000000)) = true := by
      simp only [List.all_eq_true, Bool.and_eq_true, decide_eq_true_eq]
      intro x hm; have := hxx x hm; omega
    rw [hst]
    rw [round0]
    simp -implicitDefEqProofs (disch := omega) only [hall, ht, take_one, set_one, decide_eq_true, decide_eq_false, IntWalk.i64_in, beqT, beqF, bneT, bneF, nat_succ, ← Int.natCast_mul, ← Int.natCast_add, Int.toNat_natCast, Int.zero_mul, Int.zero_add, Int.add_zero, Nat.zero_add, Nat.add_zero, Nat.zero_mul, List.length_singleton, List.length_append, List.length_nil, List.length_cons, List.take_length, List.drop_zero, List.replicate_zero, List.take_nil, List.nil_append, Nat.reduceBEq, Nat.reduceMul, Nat.reduceLeDiff, eq_self, and_self, true_and, and_true, decide_true, decide_false, Bool.and_self, Bool.or_self, Bool.and_true, Bool.true_and, Bool.and_false, Bool.false_and, Bool.or_true, Bool.true_or, Bool.or_false, Bool.false_or, Bool.not_true, Bool.not_false, cond_true, cond_false]
    rfl
  | succ d ih =>
    intro i n hk hn
    obtain ⟨n, rfl⟩ : ∃ k, n = k + 1 := ⟨n - 1, by omega⟩
    have g := ih (i + 1) n (by omega) (by omega)
    have g0 := loop2 p i (co.kou.sv (co.dk.sv ws xs) p i) ws xs f n hs hx hxp hp hD (by omega) p 0 f (by omega) (by omega)
    rw [co.kou.sv] at g
    have g' := (congrArg (regc [2]) g0).trans g
    rw [round0]
    simp -implicitDefEqProofs (disch := omega) only [take_one, set_one, decide_eq_true, decide_eq_false, IntWalk.i64_in, beqT, beqF, bneT, bneF, nat_succ, ← Int.natCast_mul, ← Int.natCast_add, Int.toNat_natCast, Int.zero_mul, Int.zero_add, Int.add_zero, Nat.zero_add, Nat.add_zero, Nat.zero_mul, List.length_singleton, List.length_append, List.length_nil, List.length_cons, List.take_length, List.drop_zero, List.replicate_zero, List.take_nil, List.nil_append, Nat.reduceBEq, Nat.reduceMul, Nat.reduceLeDiff, eq_self, and_self, true_and, and_true, decide_true, decide_false, Bool.and_self, Bool.or_self, Bool.and_true, Bool.true_and, Bool.and_false, Bool.false_and, Bool.or_true, Bool.true_or, Bool.or_false, Bool.false_or, Bool.not_true, Bool.not_false, cond_true, cond_false]
    exact g'
theorem run : ∀ args v new, R args = some (true, v, new) → ∃ fuel, regc [2] (runFn Try.prog (orc [⟨65, areShares.R⟩, ⟨79, cloS.R⟩, ⟨76, clone.R⟩, ⟨81, areWithin.R⟩]) hd Dr.std none fuel (bodyOf Try.f26) 82 [4, 5] args []) = some (v, new) := by
  intro args v new h
  unfold R at h
  split at h
  · rename_i p ws m xs mx
    simp only [Option.some.injEq, Prod.mk.injEq, Bool.and_eq_true, decide_eq_true_eq] at h
    obtain ⟨⟨⟨rfl, rfl, hmp, h2p⟩, hs, hx⟩, rfl, rfl⟩ := h
    have hs2 := hs
    obtain ⟨p, rfl, hp, hw, h0, v⟩ := wo.valid hs2
    have h64 := wo.pow_le hp.2
    have h1p := wo.pow_pos p
    have hx2 : ∀ x ∈ xs, -1000 ≤ x ∧ x ≤ 1000 := by simpa only [List.all_eq_true, Bool.and_eq_true, decide_eq_true_eq] using hx
    have hxp : xs.length = p := by omega
    have hxb : (xs.all fun x => decide (-1000000 ≤ x) && decide (x ≤ 1000000)) = true := by
      simp only [List.all_eq_true, Bool.and_eq_true, decide_eq_true_eq]
      intro x hm; have := hx2 x hm; omega
    obtain ⟨F, hF⟩ : ∃ F : Nat, F = 100 := ⟨100, rfl⟩
    refine ⟨F, ?_⟩
    have g := loop0 p ws xs F hs hx hxp hp.2 (co.dk_in v hx2 (by omega)) (by omega) (by omega) p 0 F (by omega) (by omega)
    rw [start]
    simp -implicitDefEqProofs (disch := omega) only [hs, hxb, take_one, set_one, decide_eq_true, decide_eq_false, IntWalk.i64_in, beqT, beqF, bneT, bneF, nat_succ, ← Int.natCast_mul, ← Int.natCast_add, Int.toNat_natCast, Int.zero_mul, Int.zero_add, Int.add_zero, Nat.zero_add, Nat.add_zero, Nat.zero_mul, List.length_singleton, List.length_append, List.length_nil, List.length_cons, List.take_length, List.drop_zero, List.replicate_zero, List.take_nil, List.nil_append, Nat.reduceBEq, Nat.reduceMul, Nat.reduceLeDiff, eq_self, and_self, true_and, and_true, decide_true, decide_false, Bool.and_self, Bool.or_self, Bool.and_true, Bool.true_and, Bool.and_false, Bool.false_and, Bool.or_true, Bool.true_or, Bool.or_false, Bool.false_or, Bool.not_true, Bool.not_false, cond_true, cond_false]
    exact g
  · cases h
theorem ok : EntOk Try.prog ⟨26, R⟩ :=
  ent_okAG (ks := [2]) mixed (A := (orc [⟨65, areShares.R⟩, ⟨79, cloS.R⟩, ⟨76, clone.R⟩, ⟨81, areWithin.R⟩])) (orc_ok (by simp only [List.mem_cons, List.not_mem_nil, or_false, forall_eq_or_imp, forall_eq]; exact ⟨areShares.ok, cloS.ok, clone.ok, areWithin.ok⟩)) Try.func26 (by kernel_rfl) (by kernel_rfl) (n := 82) (ts := [4, 5]) (hd := hd) (dr := Dr.std) (cut := none) (by kernel_rfl) (by kernel_rfl) (by kernel_rfl) run
end iKernelStep

namespace sKernelStep
def R : List AVal → Option (Bool × AVal × List Blk)
  | [.agg [.int .i64 p, .ro (.ints .i64 ws) m 1], .ro (.ints .i64 xs) mx 1] => some (decide (m = ws.length ∧ mx = xs.length ∧ (mx : Int) = p ∧ 2 ≤ p) && (wo.sp p ws && (xs.all fun x => decide (-1000 ≤ x) && decide (x ≤ 1000))), .tup [.own 0 0 xs.length 0 1, .bool true], [⟨.typ (.ints .i64 (co.step.sv ws xs)), 0⟩])
  | _ => none
def hd : Nat → Head := fun i => bif eqN i 0 then ⟨[1, 2, 6, 7, 8, 9, 998], none⟩ else bif eqN i 2 then ⟨[1, 2, 6, 7, 8, 9, 10, 998], none⟩ else ⟨[4, 5, 12, 79, 80, 998], none⟩
noncomputable def L0 (f n : Nat) (s : State) := loopAt Try.prog (orc [⟨82, l03Can.R⟩, ⟨83, l03Surplus.R⟩, ⟨77, l00In.R⟩]) hd Dr.std 0 f (bodyOf Try.f27) 0 [true, true, true, true, true, false, true] (retK Try.prog [4, 5] 0 none) n s
noncomputable def L4 (f n : Nat) (s : State) := loopAt Try.prog (orc [⟨82, l03Can.R⟩, ⟨83, l03Surplus.R⟩, ⟨77, l00In.R⟩]) hd Dr.std 0 f (bodyOf Try.f27) 0 [true, true, true, true, true, true, true, true, false, true] (retK Try.prog [4, 5] 0 none) n s
noncomputable def L2 (f n n2 : Nat) (s : State) := loopAt Try.prog (orc [⟨82, l03Can.R⟩, ⟨83, l03Surplus.R⟩, ⟨77, l00In.R⟩]) hd Dr.std 0 f (bodyAt (bodyOf Try.f27) [true, true, true, true, true, false, true]) (curAt (bodyOf Try.f27) 0 [true, true, true, true, true, false, true]) [true, false, true] (iterK (normE 0 (hd (curAt (bodyOf Try.f27) 0 [true, true, true, true, true, false, true]))) (L0 f n) (contAt Try.prog (orc [⟨82, l03Can.R⟩, ⟨83, l03Surplus.R⟩, ⟨77, l00In.R⟩]) hd Dr.std 0 f (bodyOf Try.f27) 0 [true, true, true, true, true, false, true] (retK Try.prog [4, 5] 0 none))) n2 s
theorem start (p : Int) (ws xs : List Int) (f : Nat) :
  runFn Try.prog (orc [⟨82, l03Can.R⟩, ⟨83, l03Surplus.R⟩, ⟨77, l00In.R⟩]) hd Dr.std none f (bodyOf Try.f27) 91 [4, 5] [.agg [.int .i64 p, .ro (.ints .i64 ws) ws.length 1], .ro (.ints .i64 xs) xs.length 1] []
  = (bif decide (ws.length = ws.length ∧ xs.length = xs.length ∧ (↑xs.length : Int) = p ∧ (1 : Int) ≤ (1 : Int) ∧ (1 : Int) ≤ (1000 : Int)) && (wo.sp p ws && xs.all fun x => decide ((-1000000 : Int) ≤ x) && decide (x ≤ (1000000 : Int))) && (false && (true && true) || true && true) then bif true && true then bif decide (p < (2 : Int)) then some (AVal.tup [AVal.nils, AVal.bool false], [{ c := BC.cells [AVal.int IntKind.i64 p, AVal.ro (Cont.ints IntKind.i64 ws) ws.length (1 : Nat)], ver := (0 : Nat) }]) else L0 f f (mkS (91 : Nat) [((1 : Nat), AVal.ro (Cont.ints IntKind.i64 xs) xs.length (1 : Nat)), ((2 : Nat), AVal.ptr (0 : Nat) (0 : Nat) (0 : Nat)), ((6 : Nat), AVal.int IntKind.i64 (0 : Int)), ((7 : Nat), AVal.int IntKind.i64 (0 : Int)), ((8 : Nat), AVal.int IntKind.i64 (0 : Int)), ((9 : Nat), AVal.int IntKind.i64 (0 : Int))] [{ c := BC.cells [AVal.int IntKind.i64 p, AVal.ro (Cont.ints IntKind.i64 ws) ws.length (1 : Nat)], ver := (0 : Nat) }]) else none else none) := by kernel_rfl
theorem round0 (p a b m i : Int) (ws xs : List Int) (f n : Nat) :
  L0 f (n + 1) (mkS 91 [(1, .ro (.ints .i64 xs) xs.length 1), (2, .ptr 0 0 0), (6, .int .i64 a), (7, .int .i64 b), (8, .int .i64 m), (9, .int .i64 i)] [⟨.cells [.int .i64 p, .ro (.ints .i64 ws) ws.length 1], 0⟩])
  = (bif true && true then bif decide (i < p) then L2 f n f (mkS (91 : Nat) [((1 : Nat), AVal.ro (Cont.ints IntKind.i64 xs) xs.length (1 : Nat)), ((2 : Nat), AVal.ptr (0 : Nat) (0 : Nat) (0 : Nat)), ((6 : Nat), AVal.int IntKind.i64 a), ((7 : Nat), AVal.int IntKind.i64 b), ((8 : Nat), AVal.int IntKind.i64 m), ((9 : Nat), AVal.int IntKind.i64 i), ((10 : Nat), AVal.int IntKind.i64 (0 : Int))] [{ c := BC.cells [AVal.int IntKind.i64 p, AVal.ro (Cont.ints IntKind.i64 ws) ws.length (1 : Nat)], ver := (0 : Nat) }]) else bif (1 : Nat) == (1 : Nat) && (1 : Nat) == (1 : Nat) && (true && (true && true) && (true && (decide ((0 : Nat) + (List.take xs.length xs).length ≤ (4611686018427387904 : Nat)) && decide (((0 : Nat) + (List.take xs.length xs).length) * (8 : Nat) ≤ (140737488355328 : Nat))))) then bif decide ((2 : Int) ≤ m) then bif true && (decide ((0 : Int) ≤ a) && decide (a < (↑((0 : Nat) + (List.take xs.length xs).length) : Int))) then bif true && decide (a.toNat < (List.take (0 : Nat) (List.replicate (0 : Nat) (0 : Int)) ++ List.take xs.length xs).length) then bif true && (decide ((0 : Int) ≤ a) && decide (a < (↑((0 : Nat) + (List.take xs.length xs).length) : Int))) then bif true && (true && (decide (a.toNat < (List.take (0 : Nat) (List.replicate (0 : Nat) (0 : Int)) ++ List.take xs.length xs).length) && true)) then bif true && (decide ((0 : Int) ≤ b) && decide (b < (↑((0 : Nat) + (List.take xs.length xs).length) : Int))) then bif true && decide (b.toNat < ((List.take (0 : Nat) (List.replicate (0 : Nat) (0 : Int)) ++ List.take xs.length xs).set a.toNat (IntKind.i64.wrap (gz (List.take (0 : Nat) (List.replicate (0 : Nat) (0 : Int)) ++ List.take xs.length xs) a.toNat + IntKind.i64.wrap (m.tdiv (2 : Int))))).length) then bif true && (decide ((0 : Int) ≤ b) && decide (b < (↑((0 : Nat) + (List.take xs.length xs).length) : Int))) then bif true && (true && (decide (b.toNat < ((List.take (0 : Nat) (List.replicate (0 : Nat) (0 : Int)) ++ List.take xs.length xs).set a.toNat (IntKind.i64.wrap (gz (List.take (0 : Nat) (List.replicate (0 : Nat) (0 : Int)) ++ List.take xs.length xs) a.toNat + IntKind.i64.wrap (m.tdiv (2 : Int))))).length) && true)) then L4 f f (mkS (91 : Nat) [((12 : Nat), AVal.own (0 : Nat) (0 : Nat) ((0 : Nat) + (List.take xs.length xs).length) (0 : Nat) (1 : Nat)), ((79 : Nat), AVal.int IntKind.i64 (↑((0 : Nat) + (List.take xs.length xs).length) : Int)), ((80 : Nat), AVal.int IntKind.i64 (0 : Int))] [{ c := BC.typ (Cont.ints IntKind.i64 (((List.take (0 : Nat) (List.replicate (0 : Nat) (0 : Int)) ++ List.take xs.length xs).set a.toNat (IntKind.i64.wrap (gz (List.take (0 : Nat) (List.replicate (0 : Nat) (0 : Int)) ++ List.take xs.length xs) a.toNat + IntKind.i64.wrap (m.tdiv (2 : Int))))).set b.toNat (IntKind.i64.wrap (gz ((List.take (0 : Nat) (List.replicate (0 : Nat) (0 : Int)) ++ List.take xs.length xs).set a.toNat (IntKind.i64.wrap (gz (List.take (0 : Nat) (List.replicate (0 : Nat) (0 : Int)) ++ List.take xs.length xs) a.toNat + IntKind.i64.wrap (m.tdiv (2 : Int))))) b.toNat - IntKind.i64.wrap (m.tdiv (2 : Int)))))), ver := (0 : Nat) }]) else none else none else none else none else none else none else none else none else L4 f f (mkS (91 : Nat) [((12 : Nat), AVal.own (0 : Nat) (0 : Nat) ((0 : Nat) + (List.take xs.length xs).length) (0 : Nat) (1 : Nat)), ((79 : Nat), AVal.int IntKind.i64 (↑((0 : Nat) + (List.take xs.length xs).length) : Int)), ((80 : Nat), AVal.int IntKind.i64 (0 : Int))] [{ c := BC.typ (Cont.ints IntKind.i64 (List.take (0 : Nat) (List.replicate (0 : Nat) (0 : Int)) ++ List.take xs.length xs)), ver := (0 : Nat) }]) else none else none) := by kernel_rfl
theorem round2 (p a b m i k : Int) (ws xs : List Int) (f n n2 : Nat) :
  L2 f n (n2 + 1) (mkS 91 [(1, .ro (.ints .i64 xs) xs.length 1), (2, .ptr 0 0 0), (6, .int .i64 a), (7, .int .i64 b), (8, .int .i64 m), (9, .int .i64 i), (10, .int .i64 k)] [⟨.cells [.int .i64 p, .ro (.ints .i64 ws) ws.length 1], 0⟩])
  = (bif true && true then bif decide (k < p) then bif i == k then L2 f n n2 (mkS (91 : Nat) [((1 : Nat), AVal.ro (Cont.ints IntKind.i64 xs) xs.length (1 : Nat)), ((2 : Nat), AVal.ptr (0 : Nat) (0 : Nat) (0 : Nat)), ((6 : Nat), AVal.int IntKind.i64 a), ((7 : Nat), AVal.int IntKind.i64 b), ((8 : Nat), AVal.int IntKind.i64 m), ((9 : Nat), AVal.int IntKind.i64 i), ((10 : Nat), AVal.int IntKind.i64 (IntKind.i64.wrap (k + (1 : Int))))] [{ c := BC.cells [AVal.int IntKind.i64 p, AVal.ro (Cont.ints IntKind.i64 ws) ws.length (1 : Nat)], ver := (0 : Nat) }]) else bif decide (ws.length = ws.length ∧ xs.length = xs.length ∧ (↑xs.length : Int) = p ∧ (0 : Int) ≤ i ∧ i < p ∧ (0 : Int) ≤ k ∧ k < p) && (wo.sp p ws && xs.all fun x => decide ((-1000 : Int) ≤ x) && decide (x ≤ (1000 : Int))) && (false && (true && (true && (true && true))) || true && true) then bif decide (ws.length = ws.length ∧ xs.length = xs.length ∧ (↑xs.length : Int) = p ∧ (0 : Int) ≤ k ∧ k < p ∧ (0 : Int) ≤ i ∧ i < p) && (wo.sp p ws && xs.all fun x => decide ((-1000 : Int) ≤ x) && decide (x ≤ (1000 : Int))) && (false && (true && (true && (true && true))) || true && true) then bif a == b then L2 f n n2 (mkS (91 : Nat) [((1 : Nat), AVal.ro (Cont.ints IntKind.i64 xs) xs.length (1 : Nat)), ((2 : Nat), AVal.ptr (0 : Nat) (0 : Nat) (0 : Nat)), ((6 : Nat), AVal.int IntKind.i64 i), ((7 : Nat), AVal.int IntKind.i64 k), ((8 : Nat), AVal.int IntKind.i64 (IntKind.i64.wrap ((co.wst.sv (fun S => co.cm.sv ws xs (1 : Int) S xs.length) (co.m2.sp i.toNat k.toNat) ws.length).1 - (co.wst.sv (fun S => co.cm.sv ws xs (1 : Int) S xs.length) (co.m2.sp k.toNat i.toNat) ws.length).1))), ((9 : Nat), AVal.int IntKind.i64 i), ((10 : Nat), AVal.int IntKind.i64 (IntKind.i64.wrap (k + (1 : Int))))] [{ c := BC.cells [AVal.int IntKind.i64 p, AVal.ro (Cont.ints IntKind.i64 ws) ws.length (1 : Nat)], ver := (0 : Nat) }]) else bif decide (m < IntKind.i64.wrap ((co.wst.sv (fun S => co.cm.sv ws xs (1 : Int) S xs.length) (co.m2.sp i.toNat k.toNat) ws.length).1 - (co.wst.sv (fun S => co.cm.sv ws xs (1 : Int) S xs.length) (co.m2.sp k.toNat i.toNat) ws.length).1)) then L2 f n n2 (mkS (91 : Nat) [((1 : Nat), AVal.ro (Cont.ints IntKind.i64 xs) xs.length (1 : Nat)), ((2 : Nat), AVal.ptr (0 : Nat) (0 : Nat) (0 : Nat)), ((6 : Nat), AVal.int IntKind.i64 i), ((7 : Nat), AVal.int IntKind.i64 k), ((8 : Nat), AVal.int IntKind.i64 (IntKind.i64.wrap ((co.wst.sv (fun S => co.cm.sv ws xs (1 : Int) S xs.length) (co.m2.sp i.toNat k.toNat) ws.length).1 - (co.wst.sv (fun S => co.cm.sv ws xs (1 : Int) S xs.length) (co.m2.sp k.toNat i.toNat) ws.length).1))), ((9 : Nat), AVal.int IntKind.i64 i), ((10 : Nat), AVal.int IntKind.i64 (IntKind.i64.wrap (k + (1 : Int))))] [{ c := BC.cells [AVal.int IntKind.i64 p, AVal.ro (Cont.ints IntKind.i64 ws) ws.length (1 : Nat)], ver := (0 : Nat) }]) else L2 f n n2 (mkS (91 : Nat) [((1 : Nat), AVal.ro (Cont.ints IntKind.i64 xs) xs.length (1 : Nat)), ((2 : Nat), AVal.ptr (0 : Nat) (0 : Nat) (0 : Nat)), ((6 : Nat), AVal.int IntKind.i64 a), ((7 : Nat), AVal.int IntKind.i64 b), ((8 : Nat), AVal.int IntKind.i64 m), ((9 : Nat), AVal.int IntKind.i64 i), ((10 : Nat), AVal.int IntKind.i64 (IntKind.i64.wrap (k + (1 : Int))))] [{ c := BC.cells [AVal.int IntKind.i64 p, AVal.ro (Cont.ints IntKind.i64 ws) ws.length (1 : Nat)], ver := (0 : Nat) }]) else none else none else L0 f n (mkS (91 : Nat) [((1 : Nat), AVal.ro (Cont.ints IntKind.i64 xs) xs.length (1 : Nat)), ((2 : Nat), AVal.ptr (0 : Nat) (0 : Nat) (0 : Nat)), ((6 : Nat), AVal.int IntKind.i64 a), ((7 : Nat), AVal.int IntKind.i64 b), ((8 : Nat), AVal.int IntKind.i64 m), ((9 : Nat), AVal.int IntKind.i64 (IntKind.i64.wrap (i + (1 : Int))))] [{ c := BC.cells [AVal.int IntKind.i64 p, AVal.ro (Cont.ints IntKind.i64 ws) ws.length (1 : Nat)], ver := (0 : Nat) }]) else none) := by kernel_rfl
theorem round4 (l k : Int) (os : List Int) (q f n : Nat) :
  L4 f (n + 1) (mkS 91 [(12, .own 0 0 q 0 1), (79, .int .i64 l), (80, .int .i64 k)] [⟨.typ (.ints .i64 os), 0⟩])
  = (bif decide (k < l) then bif true && (decide ((0 : Int) ≤ k) && decide (k < (↑q : Int))) then bif true && decide (k.toNat < os.length) then bif true && (true && true || true && true) then bif !(decide ((-1000000 : Int) ≤ gz os k.toNat) && decide (gz os k.toNat ≤ (1000000 : Int))) then some (AVal.tup [AVal.nils, AVal.bool false], [{ c := BC.typ (Cont.ints IntKind.i64 os), ver := (0 : Nat) }]) else L4 f n (mkS (91 : Nat) [((12 : Nat), AVal.own (0 : Nat) (0 : Nat) q (0 : Nat) (1 : Nat)), ((79 : Nat), AVal.int IntKind.i64 l), ((80 : Nat), AVal.int IntKind.i64 (IntKind.i64.wrap (k + (1 : Int))))] [{ c := BC.typ (Cont.ints IntKind.i64 os), ver := (0 : Nat) }]) else none else none else none else some (AVal.tup [AVal.own (0 : Nat) (0 : Nat) q (0 : Nat) (1 : Nat), AVal.bool true], [{ c := BC.typ (Cont.ints IntKind.i64 os), ver := (0 : Nat) }])) := by kernel_rfl
theorem loop4 (os : List Int) (f : Nat) (hl : os.length ≤ 6) (hx : ∀ x ∈ os, -1000000 ≤ x ∧ x ≤ 1000000) : ∀ (d k n : Nat), k + d = os.length → d < n →
    L4 f n (mkS 91 [(12, .own 0 0 os.length 0 1), (79, .int .i64 ((os.length : Nat) : Int)), (80, .int .i64 ((k : Nat) : Int))] [⟨.typ (.ints .i64 os), 0⟩]) = some (.tup [.own 0 0 os.length 0 1, .bool true], [⟨.typ (.ints .i64 os), 0⟩]) := by
  intro d
  induction d with
  | zero =>
    intro k n hk hn
    obtain ⟨n, rfl⟩ : ∃ k, n = k + 1 := ⟨n - 1, by omega⟩
    obtain rfl : k = os.length := by omega
    rw [round4]
    simp -implicitDefEqProofs (disch := omega) only [take_one, set_one, decide_eq_true, decide_eq_false, IntWalk.i64_in, beqT, beqF, bneT, bneF, nat_succ, ← Int.natCast_mul, ← Int.natCast_add, Int.toNat_natCast, Int.zero_mul, Int.zero_add, Int.add_zero, Nat.zero_add, Nat.add_zero, Nat.zero_mul, List.length_singleton, List.length_append, List.length_nil, List.length_cons, List.take_length, List.drop_zero, List.replicate_zero, List.take_nil, List.nil_append, Nat.reduceBEq, Nat.reduceMul, Nat.reduceLeDiff, eq_self, and_self, true_and, and_true, decide_true, decide_false, Bool.and_self, Bool.or_self, Bool.and_true, Bool.true_and, Bool.and_false, Bool.false_and, Bool.or_true, Bool.true_or, Bool.or_false, Bool.false_or, Bool.not_true, Bool.not_false, cond_true, cond_false]
  | succ d ih =>
    intro k n hk hn
    obtain ⟨n, rfl⟩ : ∃ k, n = k + 1 := ⟨n - 1, by omega⟩
    have g := ih (k + 1) n (by omega) (by omega)
    have b1 := hx _ (gz_mem (show k < os.length by omega))
    rw [round4]
    simp -implicitDefEqProofs (disch := omega) only [take_one, set_one, decide_eq_true, decide_eq_false, IntWalk.i64_in, beqT, beqF, bneT, bneF, nat_succ, ← Int.natCast_mul, ← Int.natCast_add, Int.toNat_natCast, Int.zero_mul, Int.zero_add, Int.add_zero, Nat.zero_add, Nat.add_zero, Nat.zero_mul, List.length_singleton, List.length_append, List.length_nil, List.length_cons, List.take_length, List.drop_zero, List.replicate_zero, List.take_nil, List.nil_append, Nat.reduceBEq, Nat.reduceMul, Nat.reduceLeDiff, eq_self, and_self, true_and, and_true, decide_true, decide_false, Bool.and_self, Bool.or_self, Bool.and_true, Bool.true_and, Bool.and_false, Bool.false_and, Bool.or_true, Bool.true_or, Bool.or_false, Bool.false_or, Bool.not_true, Bool.not_false, cond_true, cond_false]
    exact g
theorem loop2 (p i : Nat) (r : co.Kr) (ws xs : List Int) (f n : Nat) (hs : wo.sp (p : Int) ws = true) (hx : (xs.all fun x => decide (-1000 ≤ x) && decide (x ≤ 1000)) = true) (hxp : xs.length = p) (hp : p ≤ 6) (hD : ∀ i k, -40000 ≤ co.dk.sv ws xs i k ∧ co.dk.sv ws xs i k ≤ 40000) (hi : i < p) (hr : co.KOk p 40000 r) : ∀ (d k n2 : Nat), k + d = p → d < n2 →
    L2 f n n2 (mkS 91 [(1, .ro (.ints .i64 xs) xs.length 1), (2, .ptr 0 0 0), (6, .int .i64 (co.za.sv (co.kin.sv (co.dk.sv ws xs) i r k).to)), (7, .int .i64 (co.za.sv (co.kin.sv (co.dk.sv ws xs) i r k).fr)), (8, .int .i64 (co.kin.sv (co.dk.sv ws xs) i r k).m), (9, .int .i64 ((i : Nat) : Int)), (10, .int .i64 ((k : Nat) : Int))] [⟨.cells [.int .i64 ((p : Nat) : Int), .ro (.ints .i64 ws) ws.length 1], 0⟩]) = L0 f n (mkS 91 [(1, .ro (.ints .i64 xs) xs.length 1), (2, .ptr 0 0 0), (6, .int .i64 (co.za.sv (co.kin.sv (co.dk.sv ws xs) i r p).to)), (7, .int .i64 (co.za.sv (co.kin.sv (co.dk.sv ws xs) i r p).fr)), (8, .int .i64 (co.kin.sv (co.dk.sv ws xs) i r p).m), (9, .int .i64 ((i + 1 : Nat) : Int))] [⟨.cells [.int .i64 ((p : Nat) : Int), .ro (.ints .i64 ws) ws.length 1], 0⟩]) := by
  intro d
  induction d with
  | zero =>
    intro k n2 hk hn
    obtain ⟨n2, rfl⟩ : ∃ k, n2 = k + 1 := ⟨n2 - 1, by omega⟩
    obtain rfl : k = p := by omega
    rw [round2]
    simp -implicitDefEqProofs (disch := omega) only [take_one, set_one, decide_eq_true, decide_eq_false, IntWalk.i64_in, beqT, beqF, bneT, bneF, nat_succ, ← Int.natCast_mul, ← Int.natCast_add, Int.toNat_natCast, Int.zero_mul, Int.zero_add, Int.add_zero, Nat.zero_add, Nat.add_zero, Nat.zero_mul, List.length_singleton, List.length_append, List.length_nil, List.length_cons, List.take_length, List.drop_zero, List.replicate_zero, List.take_nil, List.nil_append, Nat.reduceBEq, Nat.reduceMul, Nat.reduceLeDiff, eq_self, and_self, true_and, and_true, decide_true, decide_false, Bool.and_self, Bool.or_self, Bool.and_true, Bool.true_and, Bool.and_false, Bool.false_and, Bool.or_true, Bool.true_or, Bool.or_false, Bool.false_or, Bool.not_true, Bool.not_false, cond_true, cond_false]
  | succ d ih =>
    intro k n2 hk hn
    obtain ⟨n2, rfl⟩ : ∃ k, n2 = k + 1 := ⟨n2 - 1, by omega⟩
    have g := ih (k + 1) n2 (by omega) (by omega)
    have hk2 := co.kin_ok hD hi hr k (by omega)
    have zc : ((q : co.Kr) → co.KOk p 40000 q → (co.za.sv q.to == co.za.sv q.fr) = decide (q.to < 0)) := fun q hq => by
      rcases hq with ⟨h1, h2, _⟩ | ⟨t, fr, h1, h2, _, _, h5, _, _⟩
      · rw [h1, h2]; rfl
      · rw [h1, h2, decide_eq_false (by omega)]
        simp only [co.za.sv]
        rw [decide_eq_false (by omega), decide_eq_false (by omega), cond_false, cond_false]
        exact beqF (by omega)
    have e1 : (co.wst.sv (fun S => co.cm.sv ws xs 1 S xs.length) (co.m2.sp i k) ws.length).1 - (co.wst.sv (fun S => co.cm.sv ws xs 1 S xs.length) (co.m2.sp k i) ws.length).1 = co.dk.sv ws xs i k := rfl
    have e2 := hD i k
    rw [co.kin.sv] at g
    generalize co.kin.sv (co.dk.sv ws xs) i r k = q at g hk2 ⊢
    have zq := zc q hk2
    have zi : co.za.sv ((i : Nat) : Int) = ((i : Nat) : Int) := by rw [co.za.sv, decide_eq_false (by omega), cond_false]
    have zk : co.za.sv ((k : Nat) : Int) = ((k : Nat) : Int) := by rw [co.za.sv, decide_eq_false (by omega), cond_false]
    rw [round2]
    by_cases c : i = k
    · rw [decide_eq_true c, cond_true] at g
      simp -implicitDefEqProofs (disch := omega) only [hs, hx, e1, take_one, set_one, decide_eq_true, decide_eq_false, IntWalk.i64_in, beqT, beqF, bneT, bneF, nat_succ, ← Int.natCast_mul, ← Int.natCast_add, Int.toNat_natCast, Int.zero_mul, Int.zero_add, Int.add_zero, Nat.zero_add, Nat.add_zero, Nat.zero_mul, List.length_singleton, List.length_append, List.length_nil, List.length_cons, List.take_length, List.drop_zero, List.replicate_zero, List.take_nil, List.nil_append, Nat.reduceBEq, Nat.reduceMul, Nat.reduceLeDiff, eq_self, and_self, true_and, and_true, decide_true, decide_false, Bool.and_self, Bool.or_self, Bool.and_true, Bool.true_and, Bool.and_false, Bool.false_and, Bool.or_true, Bool.true_or, Bool.or_false, Bool.false_or, Bool.not_true, Bool.not_false, cond_true, cond_false]
      exact g
    · rw [decide_eq_false c, cond_false] at g
      by_cases c1 : q.to < 0
      · rw [decide_eq_true c1, Bool.true_or, cond_true, zi, zk] at g
        simp -implicitDefEqProofs (disch := omega) only [hs, hx, e1, zq, take_one, set_one, decide_eq_true, decide_eq_false, IntWalk.i64_in, beqT, beqF, bneT, bneF, nat_succ, ← Int.natCast_mul, ← Int.natCast_add, Int.toNat_natCast, Int.zero_mul, Int.zero_add, Int.add_zero, Nat.zero_add, Nat.add_zero, Nat.zero_mul, List.length_singleton, List.length_append, List.length_nil, List.length_cons, List.take_length, List.drop_zero, List.replicate_zero, List.take_nil, List.nil_append, Nat.reduceBEq, Nat.reduceMul, Nat.reduceLeDiff, eq_self, and_self, true_and, and_true, decide_true, decide_false, Bool.and_self, Bool.or_self, Bool.and_true, Bool.true_and, Bool.and_false, Bool.false_and, Bool.or_true, Bool.true_or, Bool.or_false, Bool.false_or, Bool.not_true, Bool.not_false, cond_true, cond_false]
        exact g
      · by_cases c2 : q.m < co.dk.sv ws xs i k
        · rw [decide_eq_true c2, Bool.or_true, cond_true, zi, zk] at g
          simp -implicitDefEqProofs (disch := omega) only [hs, hx, e1, zq, take_one, set_one, decide_eq_true, decide_eq_false, IntWalk.i64_in, beqT, beqF, bneT, bneF, nat_succ, ← Int.natCast_mul, ← Int.natCast_add, Int.toNat_natCast, Int.zero_mul, Int.zero_add, Int.add_zero, Nat.zero_add, Nat.add_zero, Nat.zero_mul, List.length_singleton, List.length_append, List.length_nil, List.length_cons, List.take_length, List.drop_zero, List.replicate_zero, List.take_nil, List.nil_append, Nat.reduceBEq, Nat.reduceMul, Nat.reduceLeDiff, eq_self, and_self, true_and, and_true, decide_true, decide_false, Bool.and_self, Bool.or_self, Bool.and_true, Bool.true_and, Bool.and_false, Bool.false_and, Bool.or_true, Bool.true_or, Bool.or_false, Bool.false_or, Bool.not_true, Bool.not_false, cond_true, cond_false]
          exact g
        · rw [decide_eq_false c1, decide_eq_false c2, Bool.or_false, cond_false] at g
          simp -implicitDefEqProofs (disch := omega) only [hs, hx, e1, zq, take_one, set_one, decide_eq_true, decide_eq_false, IntWalk.i64_in, beqT, beqF, bneT, bneF, nat_succ, ← Int.natCast_mul, ← Int.natCast_add, Int.toNat_natCast, Int.zero_mul, Int.zero_add, Int.add_zero, Nat.zero_add, Nat.add_zero, Nat.zero_mul, List.length_singleton, List.length_append, List.length_nil, List.length_cons, List.take_length, List.drop_zero, List.replicate_zero, List.take_nil, List.nil_append, Nat.reduceBEq, Nat.reduceMul, Nat.reduceLeDiff, eq_self, and_self, true_and, and_true, decide_true, decide_false, Bool.and_self, Bool.or_self, Bool.and_true, Bool.true_and, Bool.and_false, Bool.false_and, Bool.or_true, Bool.true_or, Bool.or_false, Bool.false_or, Bool.not_true, Bool.not_false, cond_true, cond_false]
          exact g
theorem loop0 (p : Nat) (ws xs : List Int) (f : Nat) (hs : wo.sp (p : Int) ws = true) (hx : (xs.all fun x => decide (-1000 ≤ x) && decide (x ≤ 1000)) = true) (hxp : xs.length = p) (hp : p ≤ 6) (hD : ∀ i k, -40000 ≤ co.dk.sv ws xs i k ∧ co.dk.sv ws xs i k ≤ 40000) (h2p : 2 ≤ p) (hf : p < f) : ∀ (d i n : Nat), i + d = p → d < n →
    L0 f n (mkS 91 [(1, .ro (.ints .i64 xs) xs.length 1), (2, .ptr 0 0 0), (6, .int .i64 (co.za.sv (co.kou.sv (co.dk.sv ws xs) p i).to)), (7, .int .i64 (co.za.sv (co.kou.sv (co.dk.sv ws xs) p i).fr)), (8, .int .i64 (co.kou.sv (co.dk.sv ws xs) p i).m), (9, .int .i64 ((i : Nat) : Int))] [⟨.cells [.int .i64 ((p : Nat) : Int), .ro (.ints .i64 ws) ws.length 1], 0⟩]) = some (.tup [.own 0 0 xs.length 0 1, .bool true], [⟨.typ (.ints .i64 (co.step.sv ws xs)), 0⟩]) := by
  intro d
  induction d with
  | zero =>
    intro i n hk hn
    obtain ⟨n, rfl⟩ : ∃ k, n = k + 1 := ⟨n - 1, by omega⟩
    obtain rfl : i = p := by omega
    have hxx : ∀ x ∈ xs, -1000 ≤ x ∧ x ≤ 1000 := by simpa only [List.all_eq_true, Bool.and_eq_true, decide_eq_true_eq] using hx
    have ht : xs.take xs.length = xs := List.take_of_length_le (Nat.le_refl _)
    have hstep : co.step.sv ws xs = co.stp.sv xs (co.kou.sv (co.dk.sv ws xs) i i) := by rw [co.step.sv, hxp]
    have hk := co.kou_ok hD (p := i) i (Nat.le_refl _)
    rw [hstep]
    generalize co.kou.sv (co.dk.sv ws xs) i i = q at hk ⊢
    by_cases c : 2 ≤ q.m
    · rcases hk with ⟨_, _, h3⟩ | ⟨t, fr, h1, h2, h3, h4, h5, h6, h7⟩
      · omega
      obtain ⟨h, hh⟩ : ∃ h, q.m.tdiv 2 = h := ⟨_, rfl⟩
      have hb : 0 ≤ h ∧ h ≤ 40000 := by rw [← hh, Int.tdiv_eq_ediv_of_nonneg (by omega)]; omega
      have hst : co.stp.sv xs q = (xs.set t (gz xs t + h)).set fr (gz xs fr - h) := by
        rw [co.stp.sv, decide_eq_true c, cond_true, h1, h2, Int.toNat_natCast, Int.toNat_natCast, hh]
      have hgs : ∀ v : Int, gz (xs.set t v) fr = gz xs fr := fun v => by rw [gz_set (by omega), if_neg h5]
      have g1 := co.gz_rng (by decide : (0 : Int) ≤ 1000) hxx t
      have g2 := co.gz_rng (by decide : (0 : Int) ≤ 1000) hxx fr
      have hbig := co.stp_big hxx hb.1 hb.2 t fr
      have hl2 : ((xs.set t (gz xs t + h)).set fr (gz xs fr - h)).length = xs.length := by rw [List.length_set, List.length_set]
      rw [hst]
      have z1 : co.za.sv ((t : Nat) : Int) = ((t : Nat) : Int) := by rw [co.za.sv, decide_eq_false (by omega), cond_false]
      have z2 : co.za.sv ((fr : Nat) : Int) = ((fr : Nat) : Int) := by rw [co.za.sv, decide_eq_false (by omega), cond_false]
      have g := loop4 ((xs.set t (gz xs t + h)).set fr (gz xs fr - h)) f (by omega) hbig ((xs.set t (gz xs t + h)).set fr (gz xs fr - h)).length 0 f (by omega) (by omega)
      rw [hl2] at g
      rw [round0]
      simp -implicitDefEqProofs (disch := omega) only [h1, h2, z1, z2, hh, hgs, ht, List.length_set, hl2, List.take_zero, List.nil_append, take_one, set_one, decide_eq_true, decide_eq_false, IntWalk.i64_in, beqT, beqF, bneT, bneF, nat_succ, ← Int.natCast_mul, ← Int.natCast_add, Int.toNat_natCast, Int.zero_mul, Int.zero_add, Int.add_zero, Nat.zero_add, Nat.add_zero, Nat.zero_mul, List.length_singleton, List.length_append, List.length_nil, List.length_cons, List.take_length, List.drop_zero, List.replicate_zero, List.take_nil, List.nil_append, Nat.reduceBEq, Nat.reduceMul, Nat.reduceLeDiff, eq_self, and_self, true_and, and_true, decide_true, decide_false, Bool.and_self, Bool.or_self, Bool.and_true, Bool.true_and, Bool.and_false, Bool.false_and, Bool.or_true, Bool.true_or, Bool.or_false, Bool.false_or, Bool.not_true, Bool.not_false, cond_true, cond_false]
      exact g
    have hst : co.stp.sv xs q = xs := by rw [co.stp.sv, decide_eq_false c, cond_false]
    have g := loop4 xs f (by omega) (fun x hm => by have := hxx x hm; omega) xs.length 0 f (by omega) (by omega)
    rw [hst]
    rw [round0]
    simp -implicitDefEqProofs (disch := omega) only [ht, List.take_zero, List.nil_append, take_one, set_one, decide_eq_true, decide_eq_false, IntWalk.i64_in, beqT, beqF, bneT, bneF, nat_succ, ← Int.natCast_mul, ← Int.natCast_add, Int.toNat_natCast, Int.zero_mul, Int.zero_add, Int.add_zero, Nat.zero_add, Nat.add_zero, Nat.zero_mul, List.length_singleton, List.length_append, List.length_nil, List.length_cons, List.take_length, List.drop_zero, List.replicate_zero, List.take_nil, List.nil_append, Nat.reduceBEq, Nat.reduceMul, Nat.reduceLeDiff, eq_self, and_self, true_and, and_true, decide_true, decide_false, Bool.and_self, Bool.or_self, Bool.and_true, Bool.true_and, Bool.and_false, Bool.false_and, Bool.or_true, Bool.true_or, Bool.or_false, Bool.false_or, Bool.not_true, Bool.not_false, cond_true, cond_false]
    exact g
  | succ d ih =>
    intro i n hk hn
    obtain ⟨n, rfl⟩ : ∃ k, n = k + 1 := ⟨n - 1, by omega⟩
    have g := ih (i + 1) n (by omega) (by omega)
    have hr := co.kou_ok hD (p := p) i (by omega)
    have g0 := loop2 p i (co.kou.sv (co.dk.sv ws xs) p i) ws xs f n hs hx hxp hp hD (by omega) hr p 0 f (by omega) (by omega)
    rw [co.kou.sv] at g
    rw [round0]
    simp -implicitDefEqProofs (disch := omega) only [take_one, set_one, decide_eq_true, decide_eq_false, IntWalk.i64_in, beqT, beqF, bneT, bneF, nat_succ, ← Int.natCast_mul, ← Int.natCast_add, Int.toNat_natCast, Int.zero_mul, Int.zero_add, Int.add_zero, Nat.zero_add, Nat.add_zero, Nat.zero_mul, List.length_singleton, List.length_append, List.length_nil, List.length_cons, List.take_length, List.drop_zero, List.replicate_zero, List.take_nil, List.nil_append, Nat.reduceBEq, Nat.reduceMul, Nat.reduceLeDiff, eq_self, and_self, true_and, and_true, decide_true, decide_false, Bool.and_self, Bool.or_self, Bool.and_true, Bool.true_and, Bool.and_false, Bool.false_and, Bool.or_true, Bool.true_or, Bool.or_false, Bool.false_or, Bool.not_true, Bool.not_false, cond_true, cond_false]
    exact g0.trans g
theorem run : ∀ args v new, R args = some (true, v, new) → ∃ fuel, runFn Try.prog (orc [⟨82, l03Can.R⟩, ⟨83, l03Surplus.R⟩, ⟨77, l00In.R⟩]) hd Dr.std none fuel (bodyOf Try.f27) 91 [4, 5] args [] = some (v, new) := by
  intro args v new h
  unfold R at h
  split at h
  · rename_i p ws m xs mx
    simp only [Option.some.injEq, Prod.mk.injEq, Bool.and_eq_true, decide_eq_true_eq] at h
    obtain ⟨⟨⟨rfl, rfl, hmp, h2p⟩, hs, hx⟩, rfl, rfl⟩ := h
    have hs2 := hs
    obtain ⟨p, rfl, hp, hw, h0, v⟩ := wo.valid hs2
    have h64 := wo.pow_le hp.2
    have h1p := wo.pow_pos p
    have hx2 : ∀ x ∈ xs, -1000 ≤ x ∧ x ≤ 1000 := by simpa only [List.all_eq_true, Bool.and_eq_true, decide_eq_true_eq] using hx
    have hxp : xs.length = p := by omega
    have hxb : (xs.all fun x => decide (-1000000 ≤ x) && decide (x ≤ 1000000)) = true := by
      simp only [List.all_eq_true, Bool.and_eq_true, decide_eq_true_eq]
      intro x hm; have := hx2 x hm; omega
    obtain ⟨F, hF⟩ : ∃ F : Nat, F = 100 := ⟨100, rfl⟩
    refine ⟨F, ?_⟩
    have g := loop0 p ws xs F hs hx hxp hp.2 (co.dk_in v hx2 (by omega)) (by omega) (by omega) p 0 F (by omega) (by omega)
    rw [start]
    simp -implicitDefEqProofs (disch := omega) only [hs, hxb, take_one, set_one, decide_eq_true, decide_eq_false, IntWalk.i64_in, beqT, beqF, bneT, bneF, nat_succ, ← Int.natCast_mul, ← Int.natCast_add, Int.toNat_natCast, Int.zero_mul, Int.zero_add, Int.add_zero, Nat.zero_add, Nat.add_zero, Nat.zero_mul, List.length_singleton, List.length_append, List.length_nil, List.length_cons, List.take_length, List.drop_zero, List.replicate_zero, List.take_nil, List.nil_append, Nat.reduceBEq, Nat.reduceMul, Nat.reduceLeDiff, eq_self, and_self, true_and, and_true, decide_true, decide_false, Bool.and_self, Bool.or_self, Bool.and_true, Bool.true_and, Bool.and_false, Bool.false_and, Bool.or_true, Bool.true_or, Bool.or_false, Bool.false_or, Bool.not_true, Bool.not_false, cond_true, cond_false]
    exact g
  · cases h
theorem ok : EntOk Try.prog ⟨27, R⟩ :=
  ent_okA mixed (A := (orc [⟨82, l03Can.R⟩, ⟨83, l03Surplus.R⟩, ⟨77, l00In.R⟩])) (orc_ok (by simp only [List.mem_cons, List.not_mem_nil, or_false, forall_eq_or_imp, forall_eq]; exact ⟨l03Can.ok, l03Surplus.ok, l00In.ok⟩)) Try.func27 (by kernel_rfl) (by kernel_rfl) (n := 91) (ts := [4, 5]) (hd := hd) (dr := Dr.std) (cut := none) (by kernel_rfl) (by kernel_rfl) (by kernel_rfl) run
end sKernelStep

end Go.Proofs.Ytekadpddilfolaa.Ab
