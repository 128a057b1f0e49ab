/-
  Functions: the best of all owners, least parts.
-/
import Derived.Test.YtkoongajnnaeoaaFnPF
namespace Go.Proofs.Ytkoongajnnaeoaa.Ab
open Go
set_option linter.unusedVariables false
set_option linter.unusedSimpArgs false
set_option maxRecDepth 100000

namespace grtS
def R : List AVal → Option (Bool × AVal × List Blk)
  | [.agg [.int .i64 p, .int .i64 t, .ro (.ints .i64 ws) m 1], .fn f2 []] => some (decide (m = ws.length ∧ f2 = 69) && (vp.sp p t ws && bp.few.sp p t), .tup [.own 0 0 t.toNat 0 1, .int .i64 (bp.most.sv (bp.Ts t.toNat ws p.toNat) p.toNat t.toNat), .bool true], [⟨.typ (.ints .i64 (bp.best.sv (bp.Ts t.toNat ws p.toNat) p.toNat t.toNat)), 0⟩])
  | _ => none
theorem go (p t : Int) (ws : List Int) :
  runFn Try.prog (orcW [⟨127, ownersS.R⟩] [⟨73, iValidValues.R⟩]) hd0 Dr.std none 0 (bodyOf Try.f68) 20 [4, 5, 6] [.agg [.int .i64 p, .int .i64 t, .ro (.ints .i64 ws) ws.length 1], .fn 69 []] []
  = (bif true && true && (true && true && (true && true && true)) then bif decide (ws.length = ws.length) && vp.sp p t ws && (true && (true && (true && true)) && true || true && true) then bif true && true && (true && true && (true && true && true)) then bif decide (ws.length = ws.length ∧ ws.length = ws.length ∧ (128 : Nat) = (128 : FuncId) ∧ p = p ∧ t = t ∧ ws = ws ∧ (69 : FuncId) = (69 : FuncId)) && (vp.sp p t ws && bp.few.sp p t) && (true && (true && true)) then bif true && true then bif true && true then some (AVal.tup [AVal.own ((4 : Nat) + (2 : Nat)) (0 : Nat) t.toNat (0 : Nat) (1 : Nat), AVal.int IntKind.i64 (bp.most.sv (bp.Ts t.toNat ws p.toNat) p.toNat t.toNat), AVal.bool true], [{ c := BC.cells [AVal.int IntKind.i64 p, AVal.int IntKind.i64 t, AVal.ro (Cont.ints IntKind.i64 ws) ws.length (1 : Nat)], ver := (0 : Nat) }, { c := BC.cells [AVal.fn (69 : Nat) []], ver := (0 : Nat) }, { c := BC.cells [AVal.own ((4 : Nat) + (2 : Nat)) (0 : Nat) t.toNat (0 : Nat) (1 : Nat)], ver := (0 : Nat) }, { c := BC.cells [AVal.int IntKind.i64 (bp.most.sv (bp.Ts t.toNat ws p.toNat) p.toNat t.toNat)], ver := (0 : Nat) }, { c := BC.cells [AVal.int IntKind.i64 p, AVal.int IntKind.i64 t, AVal.ro (Cont.ints IntKind.i64 ws) ws.length (1 : Nat)], ver := (0 : Nat) }, { c := BC.typ (Cont.ints IntKind.i64 (bp.it p.toNat t.toNat (p.toNat ^ t.toNat))), ver := (0 : Nat) }, { c := BC.typ (Cont.ints IntKind.i64 (bp.best.sv (bp.Ts t.toNat ws p.toNat) p.toNat t.toNat)), ver := (0 : Nat) }]) else none else none else none else none else none else none) := by kernel_rfl
theorem run : ∀ args v new, R args = some (true, v, new) → ∃ fuel, regc [6] (runFn Try.prog (orcW [⟨127, ownersS.R⟩] [⟨73, iValidValues.R⟩]) hd0 Dr.std none fuel (bodyOf Try.f68) 20 [4, 5, 6] args []) = some (v, new) := by
  intro args v new h
  unfold R at h
  split at h
  · rename_i p t ws m f2
    simp only [Option.some.injEq, Prod.mk.injEq, Bool.and_eq_true, decide_eq_true_eq] at h
    obtain ⟨⟨⟨rfl, rfl⟩, hs, hf⟩, rfl, rfl⟩ := h
    have hs2 := hs
    obtain ⟨p, t, rfl, rfl, hp, ht, hw, v⟩ := vp.valid hs2
    refine ⟨0, ?_⟩
    rw [go]
    simp -implicitDefEqProofs (disch := omega) only [hs, hf, take_one, set_one, decide_eq_true, decide_eq_false, IntWalk.i64_in, beqT, beqF, bneT, bneF, nat_succ, ← Int.natCast_mul, ← Int.natCast_add, Int.toNat_natCast, Int.zero_mul, Int.zero_add, Int.add_zero, Nat.zero_add, Nat.add_zero, Nat.zero_mul, List.length_singleton, List.length_append, List.length_nil, List.length_cons, List.take_length, List.drop_zero, List.replicate_zero, List.take_nil, List.nil_append, Nat.reduceBEq, Nat.reduceMul, Nat.reduceLeDiff, eq_self, and_self, true_and, and_true, decide_true, decide_false, Bool.and_self, Bool.or_self, Bool.and_true, Bool.true_and, Bool.and_false, Bool.false_and, Bool.or_true, Bool.true_or, Bool.or_false, Bool.false_or, Bool.not_true, Bool.not_false, cond_true, cond_false]
    try rfl
  · cases h
theorem ok : EntOk Try.prog ⟨68, R⟩ :=
  ent_okAG (ks := [6]) mixed (A := (orcW [⟨127, ownersS.R⟩] [⟨73, iValidValues.R⟩])) (orcW_ok (by simp only [List.mem_cons, List.not_mem_nil, or_false, forall_eq_or_imp, forall_eq]; exact ownersS.ok) (by simp only [List.mem_cons, List.not_mem_nil, or_false, forall_eq_or_imp, forall_eq]; exact iValidValues.ok)) Try.func68 (by kernel_rfl) (by kernel_rfl) (n := 20) (ts := [4, 5, 6]) (hd := hd0) (dr := Dr.std) (cut := none) (by kernel_rfl) (by kernel_rfl) (by kernel_rfl) run
end grtS

namespace grtL
def R : List AVal → Option (Bool × AVal × List Blk)
  | [.agg [.int .i64 p, .int .i64 t, .ro (.ints .i64 ws) m 1], .fn f2 []] => some (decide (m = ws.length ∧ f2 = 70) && (vp.sp p t ws && bp.few.sp p t), .tup [.own 0 0 t.toNat 0 1, .int .i64 (bp.most.sv (bp.Tl t.toNat ws p.toNat) p.toNat t.toNat), .bool true], [⟨.typ (.ints .i64 (bp.best.sv (bp.Tl t.toNat ws p.toNat) p.toNat t.toNat)), 0⟩])
  | _ => none
theorem go (p t : Int) (ws : List Int) :
  runFn Try.prog (orcW [⟨127, ownersL.R⟩] [⟨73, iValidValues.R⟩]) hd0 Dr.std none 0 (bodyOf Try.f68) 20 [4, 5, 6] [.agg [.int .i64 p, .int .i64 t, .ro (.ints .i64 ws) ws.length 1], .fn 70 []] []
  = (bif true && true && (true && true && (true && true && true)) then bif decide (ws.length = ws.length) && vp.sp p t ws && (true && (true && (true && true)) && true || true && true) then bif true && true && (true && true && (true && true && true)) then bif decide (ws.length = ws.length ∧ ws.length = ws.length ∧ (128 : Nat) = (128 : FuncId) ∧ p = p ∧ t = t ∧ ws = ws ∧ (70 : FuncId) = (70 : FuncId)) && (vp.sp p t ws && bp.few.sp p t) && (true && (true && true)) then bif true && true then bif true && true then some (AVal.tup [AVal.own ((4 : Nat) + (2 : Nat)) (0 : Nat) t.toNat (0 : Nat) (1 : Nat), AVal.int IntKind.i64 (bp.most.sv (bp.Tl t.toNat ws p.toNat) p.toNat t.toNat), AVal.bool true], [{ c := BC.cells [AVal.int IntKind.i64 p, AVal.int IntKind.i64 t, AVal.ro (Cont.ints IntKind.i64 ws) ws.length (1 : Nat)], ver := (0 : Nat) }, { c := BC.cells [AVal.fn (70 : Nat) []], ver := (0 : Nat) }, { c := BC.cells [AVal.own ((4 : Nat) + (2 : Nat)) (0 : Nat) t.toNat (0 : Nat) (1 : Nat)], ver := (0 : Nat) }, { c := BC.cells [AVal.int IntKind.i64 (bp.most.sv (bp.Tl t.toNat ws p.toNat) p.toNat t.toNat)], ver := (0 : Nat) }, { c := BC.cells [AVal.int IntKind.i64 p, AVal.int IntKind.i64 t, AVal.ro (Cont.ints IntKind.i64 ws) ws.length (1 : Nat)], ver := (0 : Nat) }, { c := BC.typ (Cont.ints IntKind.i64 (bp.it p.toNat t.toNat (p.toNat ^ t.toNat))), ver := (0 : Nat) }, { c := BC.typ (Cont.ints IntKind.i64 (bp.best.sv (bp.Tl t.toNat ws p.toNat) p.toNat t.toNat)), ver := (0 : Nat) }]) else none else none else none else none else none else none) := by kernel_rfl
theorem run : ∀ args v new, R args = some (true, v, new) → ∃ fuel, regc [6] (runFn Try.prog (orcW [⟨127, ownersL.R⟩] [⟨73, iValidValues.R⟩]) hd0 Dr.std none fuel (bodyOf Try.f68) 20 [4, 5, 6] args []) = some (v, new) := by
  intro args v new h
  unfold R at h
  split at h
  · rename_i p t ws m f2
    simp only [Option.some.injEq, Prod.mk.injEq, Bool.and_eq_true, decide_eq_true_eq] at h
    obtain ⟨⟨⟨rfl, rfl⟩, hs, hf⟩, rfl, rfl⟩ := h
    have hs2 := hs
    obtain ⟨p, t, rfl, rfl, hp, ht, hw, v⟩ := vp.valid hs2
    refine ⟨0, ?_⟩
    rw [go]
    simp -implicitDefEqProofs (disch := omega) only [hs, hf, take_one, set_one, decide_eq_true, decide_eq_false, IntWalk.i64_in, beqT, beqF, bneT, bneF, nat_succ, ← Int.natCast_mul, ← Int.natCast_add, Int.toNat_natCast, Int.zero_mul, Int.zero_add, Int.add_zero, Nat.zero_add, Nat.add_zero, Nat.zero_mul, List.length_singleton, List.length_append, List.length_nil, List.length_cons, List.take_length, List.drop_zero, List.replicate_zero, List.take_nil, List.nil_append, Nat.reduceBEq, Nat.reduceMul, Nat.reduceLeDiff, eq_self, and_self, true_and, and_true, decide_true, decide_false, Bool.and_self, Bool.or_self, Bool.and_true, Bool.true_and, Bool.and_false, Bool.false_and, Bool.or_true, Bool.true_or, Bool.or_false, Bool.false_or, Bool.not_true, Bool.not_false, cond_true, cond_false]
    try rfl
  · cases h
theorem ok : EntOk Try.prog ⟨68, R⟩ :=
  ent_okAG (ks := [6]) mixed (A := (orcW [⟨127, ownersL.R⟩] [⟨73, iValidValues.R⟩])) (orcW_ok (by simp only [List.mem_cons, List.not_mem_nil, or_false, forall_eq_or_imp, forall_eq]; exact ownersL.ok) (by simp only [List.mem_cons, List.not_mem_nil, or_false, forall_eq_or_imp, forall_eq]; exact iValidValues.ok)) Try.func68 (by kernel_rfl) (by kernel_rfl) (n := 20) (ts := [4, 5, 6]) (hd := hd0) (dr := Dr.std) (cut := none) (by kernel_rfl) (by kernel_rfl) (by kernel_rfl) run
end grtL

namespace grtP
def R : List AVal → Option (Bool × AVal × List Blk)
  | [.agg [.int .i64 p, .int .i64 t, .ro (.ints .i64 ws) m 1], .fn f2 []] => some (decide (m = ws.length ∧ f2 = 72) && (vp.sp p t ws && bp.few.sp p t), .tup [.own 0 0 t.toNat 0 1, .int .i64 (bp.most.sv (bp.Tp t.toNat ws p.toNat) p.toNat t.toNat), .bool true], [⟨.typ (.ints .i64 (bp.best.sv (bp.Tp t.toNat ws p.toNat) p.toNat t.toNat)), 0⟩])
  | _ => none
theorem go (p t : Int) (ws : List Int) :
  runFn Try.prog (orcW [⟨127, ownersP.R⟩] [⟨73, iValidValues.R⟩]) hd0 Dr.std none 0 (bodyOf Try.f68) 20 [4, 5, 6] [.agg [.int .i64 p, .int .i64 t, .ro (.ints .i64 ws) ws.length 1], .fn 72 []] []
  = (bif true && true && (true && true && (true && true && true)) then bif decide (ws.length = ws.length) && vp.sp p t ws && (true && (true && (true && true)) && true || true && true) then bif true && true && (true && true && (true && true && true)) then bif decide (ws.length = ws.length ∧ ws.length = ws.length ∧ (128 : Nat) = (128 : FuncId) ∧ p = p ∧ t = t ∧ ws = ws ∧ (72 : FuncId) = (72 : FuncId)) && (vp.sp p t ws && bp.few.sp p t) && (true && (true && true)) then bif true && true then bif true && true then some (AVal.tup [AVal.own ((4 : Nat) + (2 : Nat)) (0 : Nat) t.toNat (0 : Nat) (1 : Nat), AVal.int IntKind.i64 (bp.most.sv (bp.Tp t.toNat ws p.toNat) p.toNat t.toNat), AVal.bool true], [{ c := BC.cells [AVal.int IntKind.i64 p, AVal.int IntKind.i64 t, AVal.ro (Cont.ints IntKind.i64 ws) ws.length (1 : Nat)], ver := (0 : Nat) }, { c := BC.cells [AVal.fn (72 : Nat) []], ver := (0 : Nat) }, { c := BC.cells [AVal.own ((4 : Nat) + (2 : Nat)) (0 : Nat) t.toNat (0 : Nat) (1 : Nat)], ver := (0 : Nat) }, { c := BC.cells [AVal.int IntKind.i64 (bp.most.sv (bp.Tp t.toNat ws p.toNat) p.toNat t.toNat)], ver := (0 : Nat) }, { c := BC.cells [AVal.int IntKind.i64 p, AVal.int IntKind.i64 t, AVal.ro (Cont.ints IntKind.i64 ws) ws.length (1 : Nat)], ver := (0 : Nat) }, { c := BC.typ (Cont.ints IntKind.i64 (bp.it p.toNat t.toNat (p.toNat ^ t.toNat))), ver := (0 : Nat) }, { c := BC.typ (Cont.ints IntKind.i64 (bp.best.sv (bp.Tp t.toNat ws p.toNat) p.toNat t.toNat)), ver := (0 : Nat) }]) else none else none else none else none else none else none) := by kernel_rfl
theorem run : ∀ args v new, R args = some (true, v, new) → ∃ fuel, regc [6] (runFn Try.prog (orcW [⟨127, ownersP.R⟩] [⟨73, iValidValues.R⟩]) hd0 Dr.std none fuel (bodyOf Try.f68) 20 [4, 5, 6] args []) = some (v, new) := by
  intro args v new h
  unfold R at h
  split at h
  · rename_i p t ws m f2
    simp only [Option.some.injEq, Prod.mk.injEq, Bool.and_eq_true, decide_eq_true_eq] at h
    obtain ⟨⟨⟨rfl, rfl⟩, hs, hf⟩, rfl, rfl⟩ := h
    have hs2 := hs
    obtain ⟨p, t, rfl, rfl, hp, ht, hw, v⟩ := vp.valid hs2
    refine ⟨0, ?_⟩
    rw [go]
    simp -implicitDefEqProofs (disch := omega) only [hs, hf, take_one, set_one, decide_eq_true, decide_eq_false, IntWalk.i64_in, beqT, beqF, bneT, bneF, nat_succ, ← Int.natCast_mul, ← Int.natCast_add, Int.toNat_natCast, Int.zero_mul, Int.zero_add, Int.add_zero, Nat.zero_add, Nat.add_zero, Nat.zero_mul, List.length_singleton, List.length_append, List.length_nil, List.length_cons, List.take_length, List.drop_zero, List.replicate_zero, List.take_nil, List.nil_append, Nat.reduceBEq, Nat.reduceMul, Nat.reduceLeDiff, eq_self, and_self, true_and, and_true, decide_true, decide_false, Bool.and_self, Bool.or_self, Bool.and_true, Bool.true_and, Bool.and_false, Bool.false_and, Bool.or_true, Bool.true_or, Bool.or_false, Bool.false_or, Bool.not_true, Bool.not_false, cond_true, cond_false]
    try rfl
  · cases h
theorem ok : EntOk Try.prog ⟨68, R⟩ :=
  ent_okAG (ks := [6]) mixed (A := (orcW [⟨127, ownersP.R⟩] [⟨73, iValidValues.R⟩])) (orcW_ok (by simp only [List.mem_cons, List.not_mem_nil, or_false, forall_eq_or_imp, forall_eq]; exact ownersP.ok) (by simp only [List.mem_cons, List.not_mem_nil, or_false, forall_eq_or_imp, forall_eq]; exact iValidValues.ok)) Try.func68 (by kernel_rfl) (by kernel_rfl) (n := 20) (ts := [4, 5, 6]) (hd := hd0) (dr := Dr.std) (cut := none) (by kernel_rfl) (by kernel_rfl) (by kernel_rfl) run
end grtP

namespace iMostWorth
def R : List AVal → Option (Bool × AVal × List Blk)
  | [.agg [.int .i64 p, .int .i64 t, .ro (.ints .i64 ws) m 1]] => some (decide (m = ws.length) && (vp.sp p t ws && (bp.few.sp p t)), .tup [.own 0 0 t.toNat 0 1, .int .i64 (bp.most.sv (bp.Ts t.toNat ws p.toNat) p.toNat t.toNat), .bool true], [⟨.typ (.ints .i64 (bp.best.sv (bp.Ts t.toNat ws p.toNat) p.toNat t.toNat)), 0⟩])
  | _ => none
theorem go (p t : Int) (ws : List Int) :
  runFn Try.prog (orc [⟨68, grtS.R⟩]) hd0 Dr.std none 0 (bodyOf Try.f14) 10 [2, 3, 4] [.agg [.int .i64 p, .int .i64 t, .ro (.ints .i64 ws) ws.length 1]] []
  = (bif true && true && (true && true && (true && true && true)) then bif decide (ws.length = ws.length ∧ (69 : Nat) = (69 : FuncId)) && (vp.sp p t ws && bp.few.sp p t) && (true && (true && (true && true)) && true || true && (true && true) && (true && true)) then some (AVal.tup [AVal.own (1 : Nat) (0 : Nat) t.toNat (0 : Nat) (1 : Nat), AVal.int IntKind.i64 (bp.most.sv (bp.Ts t.toNat ws p.toNat) p.toNat t.toNat), AVal.bool true], [{ c := BC.cells [AVal.int IntKind.i64 p, AVal.int IntKind.i64 t, AVal.ro (Cont.ints IntKind.i64 ws) ws.length (1 : Nat)], ver := (0 : Nat) }, { c := BC.typ (Cont.ints IntKind.i64 (bp.best.sv (bp.Ts t.toNat ws p.toNat) p.toNat t.toNat)), ver := (0 : Nat) }]) else none else none) := by kernel_rfl
theorem run : ∀ args v new, R args = some (true, v, new) → ∃ fuel, regc [1] (runFn Try.prog (orc [⟨68, grtS.R⟩]) hd0 Dr.std none fuel (bodyOf Try.f14) 10 [2, 3, 4] args []) = some (v, new) := by
  intro args v new h
  unfold R at h
  split at h
  · rename_i p t ws m
    simp only [Option.some.injEq, Prod.mk.injEq, Bool.and_eq_true, decide_eq_true_eq] at h
    obtain ⟨⟨rfl, hs, hf⟩, rfl, rfl⟩ := h
    have hs2 := hs
    obtain ⟨p, t, rfl, rfl, hp, ht, hw, v⟩ := vp.valid hs2
    refine ⟨0, ?_⟩
    rw [go]
    simp -implicitDefEqProofs (disch := omega) only [hs, hf, take_one, set_one, decide_eq_true, decide_eq_false, IntWalk.i64_in, beqT, beqF, bneT, bneF, nat_succ, ← Int.natCast_mul, ← Int.natCast_add, Int.toNat_natCast, Int.zero_mul, Int.zero_add, Int.add_zero, Nat.zero_add, Nat.add_zero, Nat.zero_mul, List.length_singleton, List.length_append, List.length_nil, List.length_cons, List.take_length, List.drop_zero, List.replicate_zero, List.take_nil, List.nil_append, Nat.reduceBEq, Nat.reduceMul, Nat.reduceLeDiff, eq_self, and_self, true_and, and_true, decide_true, decide_false, Bool.and_self, Bool.or_self, Bool.and_true, Bool.true_and, Bool.and_false, Bool.false_and, Bool.or_true, Bool.true_or, Bool.or_false, Bool.false_or, Bool.not_true, Bool.not_false, cond_true, cond_false]
    try rfl
  · cases h
theorem ok : EntOk Try.prog ⟨14, R⟩ :=
  ent_okAG (ks := [1]) mixed (A := (orc [⟨68, grtS.R⟩])) (orc_ok (by simp only [List.mem_cons, List.not_mem_nil, or_false, forall_eq_or_imp, forall_eq]; exact grtS.ok)) Try.func14 (by kernel_rfl) (by kernel_rfl) (n := 10) (ts := [2, 3, 4]) (hd := hd0) (dr := Dr.std) (cut := none) (by kernel_rfl) (by kernel_rfl) (by kernel_rfl) run
end iMostWorth

namespace iMostLeast
def R : List AVal → Option (Bool × AVal × List Blk)
  | [.agg [.int .i64 p, .int .i64 t, .ro (.ints .i64 ws) m 1]] => some (decide (m = ws.length) && (vp.sp p t ws && (bp.few.sp p t)), .tup [.own 0 0 t.toNat 0 1, .int .i64 (bp.most.sv (bp.Tl t.toNat ws p.toNat) p.toNat t.toNat), .bool true], [⟨.typ (.ints .i64 (bp.best.sv (bp.Tl t.toNat ws p.toNat) p.toNat t.toNat)), 0⟩])
  | _ => none
theorem go (p t : Int) (ws : List Int) :
  runFn Try.prog (orc [⟨68, grtL.R⟩]) hd0 Dr.std none 0 (bodyOf Try.f15) 10 [2, 3, 4] [.agg [.int .i64 p, .int .i64 t, .ro (.ints .i64 ws) ws.length 1]] []
  = (bif true && true && (true && true && (true && true && true)) then bif decide (ws.length = ws.length ∧ (70 : Nat) = (70 : FuncId)) && (vp.sp p t ws && bp.few.sp p t) && (true && (true && (true && true)) && true || true && (true && true) && (true && true)) then some (AVal.tup [AVal.own (1 : Nat) (0 : Nat) t.toNat (0 : Nat) (1 : Nat), AVal.int IntKind.i64 (bp.most.sv (bp.Tl t.toNat ws p.toNat) p.toNat t.toNat), AVal.bool true], [{ c := BC.cells [AVal.int IntKind.i64 p, AVal.int IntKind.i64 t, AVal.ro (Cont.ints IntKind.i64 ws) ws.length (1 : Nat)], ver := (0 : Nat) }, { c := BC.typ (Cont.ints IntKind.i64 (bp.best.sv (bp.Tl t.toNat ws p.toNat) p.toNat t.toNat)), ver := (0 : Nat) }]) else none else none) := by kernel_rfl
theorem run : ∀ args v new, R args = some (true, v, new) → ∃ fuel, regc [1] (runFn Try.prog (orc [⟨68, grtL.R⟩]) hd0 Dr.std none fuel (bodyOf Try.f15) 10 [2, 3, 4] args []) = some (v, new) := by
  intro args v new h
  unfold R at h
  split at h
  · rename_i p t ws m
    simp only [Option.some.injEq, Prod.mk.injEq, Bool.and_eq_true, decide_eq_true_eq] at h
    obtain ⟨⟨rfl, hs, hf⟩, rfl, rfl⟩ := h
    have hs2 := hs
    obtain ⟨p, t, rfl, rfl, hp, ht, hw, v⟩ := vp.valid hs2
    refine ⟨0, ?_⟩
    rw [go]
    simp -implicitDefEqProofs (disch := omega) only [hs, hf, take_one, set_one, decide_eq_true, decide_eq_false, IntWalk.i64_in, beqT, beqF, bneT, bneF, nat_succ, ← Int.natCast_mul, ← Int.natCast_add, Int.toNat_natCast, Int.zero_mul, Int.zero_add, Int.add_zero, Nat.zero_add, Nat.add_zero, Nat.zero_mul, List.length_singleton, List.length_append, List.length_nil, List.length_cons, List.take_length, List.drop_zero, List.replicate_zero, List.take_nil, List.nil_append, Nat.reduceBEq, Nat.reduceMul, Nat.reduceLeDiff, eq_self, and_self, true_and, and_true, decide_true, decide_false, Bool.and_self, Bool.or_self, Bool.and_true, Bool.true_and, Bool.and_false, Bool.false_and, Bool.or_true, Bool.true_or, Bool.or_false, Bool.false_or, Bool.not_true, Bool.not_false, cond_true, cond_false]
    try rfl
  · cases h
theorem ok : EntOk Try.prog ⟨15, R⟩ :=
  ent_okAG (ks := [1]) mixed (A := (orc [⟨68, grtL.R⟩])) (orc_ok (by simp only [List.mem_cons, List.not_mem_nil, or_false, forall_eq_or_imp, forall_eq]; exact grtL.ok)) Try.func15 (by kernel_rfl) (by kernel_rfl) (n := 10) (ts := [2, 3, 4]) (hd := hd0) (dr := Dr.std) (cut := none) (by kernel_rfl) (by kernel_rfl) (by kernel_rfl) run
end iMostLeast

namespace iMostProduct
def R : List AVal → Option (Bool × AVal × List Blk)
  | [.agg [.int .i64 p, .int .i64 t, .ro (.ints .i64 ws) m 1]] => some (decide (m = ws.length) && (vp.sp p t ws && (bp.few.sp p t && decide (bp.most.sv (bp.Tp t.toNat ws p.toNat) p.toNat t.toNat ≤ 1000000000000))), .tup [.own 0 0 t.toNat 0 1, .int .i64 (bp.most.sv (bp.Tp t.toNat ws p.toNat) p.toNat t.toNat), .bool true], [⟨.typ (.ints .i64 (bp.best.sv (bp.Tp t.toNat ws p.toNat) p.toNat t.toNat)), 0⟩])
  | _ => none
theorem go (p t : Int) (ws : List Int) :
  runFn Try.prog (orc [⟨68, grtP.R⟩]) hd0 Dr.std none 0 (bodyOf Try.f16) 22 [2, 3, 4] [.agg [.int .i64 p, .int .i64 t, .ro (.ints .i64 ws) ws.length 1]] []
  = (bif true && true && (true && true && (true && true && true)) then bif decide (ws.length = ws.length ∧ (72 : Nat) = (72 : FuncId)) && (vp.sp p t ws && bp.few.sp p t) && (true && (true && (true && true)) && true || true && (true && true) && (true && true)) then bif decide ((1000000000000 : Int) < bp.most.sv (bp.Tp t.toNat ws p.toNat) p.toNat t.toNat) then some (AVal.tup [AVal.nils, AVal.int IntKind.i64 (0 : Int), AVal.bool false], [{ c := BC.cells [AVal.int IntKind.i64 p, AVal.int IntKind.i64 t, AVal.ro (Cont.ints IntKind.i64 ws) ws.length (1 : Nat)], ver := (0 : Nat) }, { c := BC.typ (Cont.ints IntKind.i64 (bp.best.sv (bp.Tp t.toNat ws p.toNat) p.toNat t.toNat)), ver := (0 : Nat) }]) else some (AVal.tup [AVal.own (1 : Nat) (0 : Nat) t.toNat (0 : Nat) (1 : Nat), AVal.int IntKind.i64 (bp.most.sv (bp.Tp t.toNat ws p.toNat) p.toNat t.toNat), AVal.bool true], [{ c := BC.cells [AVal.int IntKind.i64 p, AVal.int IntKind.i64 t, AVal.ro (Cont.ints IntKind.i64 ws) ws.length (1 : Nat)], ver := (0 : Nat) }, { c := BC.typ (Cont.ints IntKind.i64 (bp.best.sv (bp.Tp t.toNat ws p.toNat) p.toNat t.toNat)), ver := (0 : Nat) }]) else none else none) := by kernel_rfl
theorem run : ∀ args v new, R args = some (true, v, new) → ∃ fuel, regc [1] (runFn Try.prog (orc [⟨68, grtP.R⟩]) hd0 Dr.std none fuel (bodyOf Try.f16) 22 [2, 3, 4] args []) = some (v, new) := by
  intro args v new h
  unfold R at h
  split at h
  · rename_i p t ws m
    simp only [Option.some.injEq, Prod.mk.injEq, Bool.and_eq_true, decide_eq_true_eq] at h
    obtain ⟨⟨rfl, hs, hf, hmo⟩, rfl, rfl⟩ := h
    have hs2 := hs
    obtain ⟨p, t, rfl, rfl, hp, ht, hw, v⟩ := vp.valid hs2
    rw [Int.toNat_natCast, Int.toNat_natCast] at hmo
    refine ⟨0, ?_⟩
    rw [go]
    simp -implicitDefEqProofs (disch := omega) only [hs, hf, take_one, set_one, decide_eq_true, decide_eq_false, IntWalk.i64_in, beqT, beqF, bneT, bneF, nat_succ, ← Int.natCast_mul, ← Int.natCast_add, Int.toNat_natCast, Int.zero_mul, Int.zero_add, Int.add_zero, Nat.zero_add, Nat.add_zero, Nat.zero_mul, List.length_singleton, List.length_append, List.length_nil, List.length_cons, List.take_length, List.drop_zero, List.replicate_zero, List.take_nil, List.nil_append, Nat.reduceBEq, Nat.reduceMul, Nat.reduceLeDiff, eq_self, and_self, true_and, and_true, decide_true, decide_false, Bool.and_self, Bool.or_self, Bool.and_true, Bool.true_and, Bool.and_false, Bool.false_and, Bool.or_true, Bool.true_or, Bool.or_false, Bool.false_or, Bool.not_true, Bool.not_false, cond_true, cond_false]
    try rfl
  · cases h
theorem ok : EntOk Try.prog ⟨16, R⟩ :=
  ent_okAG (ks := [1]) mixed (A := (orc [⟨68, grtP.R⟩])) (orc_ok (by simp only [List.mem_cons, List.not_mem_nil, or_false, forall_eq_or_imp, forall_eq]; exact grtP.ok)) Try.func16 (by kernel_rfl) (by kernel_rfl) (n := 22) (ts := [2, 3, 4]) (hd := hd0) (dr := Dr.std) (cut := none) (by kernel_rfl) (by kernel_rfl) (by kernel_rfl) run
end iMostProduct

namespace vLeastPart
def R : List AVal → Option (Bool × AVal × List Blk)
  | [.agg [.int .i64 p, .int .i64 t, .ro (.ints .i64 ws) m 1], .int .i64 i] => some (decide (m = ws.length ∧ 0 ≤ i ∧ i < p) && (vp.sp p t ws && bp.few.sp p t), .tup [.int .i64 (bp.ml.sv t.toNat ws p.toNat i.toNat), .bool true], [])
  | _ => none
theorem go (p t : Int) (ws : List Int) (i : Int) :
  runFn Try.prog (orcW [⟨127, ownersM.R⟩] []) hd0 Dr.std (some 0) 0 (bodyOf Try.f75) 13 [4, 5] [.agg [.int .i64 p, .int .i64 t, .ro (.ints .i64 ws) ws.length 1], .int .i64 i] []
  = (bif true && true && (true && true && (true && true && true)) then bif decide (ws.length = ws.length ∧ ws.length = ws.length ∧ (130 : Nat) = (130 : FuncId) ∧ p = p ∧ t = t ∧ ws = ws ∧ (0 : Int) ≤ i ∧ i < p ∧ (0 : Int) = (0 : Int)) && (vp.sp p t ws && bp.few.sp p t) && (true && (true && (true && true)) && (true && (true && (true && true)))) then bif true && true then some (AVal.tup [AVal.int IntKind.i64 (bp.ml.sv t.toNat ws p.toNat i.toNat), AVal.bool true], []) else none else none else none) := by kernel_rfl
theorem run : ∀ args v new, R args = some (true, v, new) → ∃ fuel, runFn Try.prog (orcW [⟨127, ownersM.R⟩] []) hd0 Dr.std (some 0) fuel (bodyOf Try.f75) 13 [4, 5] args [] = some (v, new) := by
  intro args v new h
  unfold R at h
  split at h
  · rename_i p t ws m i
    simp only [Option.some.injEq, Prod.mk.injEq, Bool.and_eq_true, decide_eq_true_eq] at h
    obtain ⟨⟨⟨rfl, h1, h2⟩, hs, hf⟩, rfl, rfl⟩ := h
    have hs2 := hs
    obtain ⟨p, t, rfl, rfl, hp, ht, hw, v⟩ := vp.valid hs2
    refine ⟨0, ?_⟩
    rw [go]
    simp -implicitDefEqProofs (disch := omega) only [hs, hf, take_one, set_one, decide_eq_true, decide_eq_false, IntWalk.i64_in, beqT, beqF, bneT, bneF, nat_succ, ← Int.natCast_mul, ← Int.natCast_add, Int.toNat_natCast, Int.zero_mul, Int.zero_add, Int.add_zero, Nat.zero_add, Nat.add_zero, Nat.zero_mul, List.length_singleton, List.length_append, List.length_nil, List.length_cons, List.take_length, List.drop_zero, List.replicate_zero, List.take_nil, List.nil_append, Nat.reduceBEq, Nat.reduceMul, Nat.reduceLeDiff, eq_self, and_self, true_and, and_true, decide_true, decide_false, Bool.and_self, Bool.or_self, Bool.and_true, Bool.true_and, Bool.and_false, Bool.false_and, Bool.or_true, Bool.true_or, Bool.or_false, Bool.false_or, Bool.not_true, Bool.not_false, cond_true, cond_false]
    try rfl
  · cases h
theorem ok : EntOk Try.prog ⟨75, R⟩ :=
  ent_okA mixed (A := (orcW [⟨127, ownersM.R⟩] [])) (orcW_ok (by simp only [List.mem_cons, List.not_mem_nil, or_false, forall_eq_or_imp, forall_eq]; exact ownersM.ok) (by simp)) Try.func75 (by kernel_rfl) (by kernel_rfl) (n := 13) (ts := [4, 5]) (hd := hd0) (dr := Dr.std) (cut := (some 0)) (by kernel_rfl) (by kernel_rfl) (by kernel_rfl) run
end vLeastPart

namespace iLeastPart
def R : List AVal → Option (Bool × AVal × List Blk)
  | [.agg [.int .i64 p, .int .i64 t, .ro (.ints .i64 ws) m 1], .int .i64 i] => some (decide (m = ws.length ∧ 0 ≤ i ∧ i < p) && (vp.sp p t ws && bp.few.sp p t), .tup [.int .i64 (bp.ml.sv t.toNat ws p.toNat i.toNat), .bool true], [])
  | _ => none
theorem go (p t : Int) (ws : List Int) (i : Int) :
  runFn Try.prog (orc [⟨73, iValidValues.R⟩, ⟨76, within.R⟩, ⟨75, vLeastPart.R⟩]) hd0 Dr.std (some 0) 0 (bodyOf Try.f21) 28 [4, 5] [.agg [.int .i64 p, .int .i64 t, .ro (.ints .i64 ws) ws.length 1], .int .i64 i] []
  = (bif true && true && (true && true && (true && true && true)) then bif decide (ws.length = ws.length) && vp.sp p t ws && (true && (true && (true && true)) && true || true && true) then bif true && true then bif true && (true && (true && (true && true)) || true && true) then bif !(decide ((0 : Int) ≤ i) && decide (i ≤ IntKind.i64.wrap (p - (1 : Int)))) then some (AVal.tup [AVal.int IntKind.i64 (0 : Int), AVal.bool false], []) else bif true && true && (true && true && (true && true && true)) then bif decide (ws.length = ws.length ∧ (0 : Int) ≤ i ∧ i < p) && (vp.sp p t ws && bp.few.sp p t) && (true && (true && (true && true)) && (true && true) || true && true && true) then some (AVal.tup [AVal.int IntKind.i64 (bp.ml.sv t.toNat ws p.toNat i.toNat), AVal.bool true], []) else none else none else none else none else none else none) := by kernel_rfl
theorem run : ∀ args v new, R args = some (true, v, new) → ∃ fuel, runFn Try.prog (orc [⟨73, iValidValues.R⟩, ⟨76, within.R⟩, ⟨75, vLeastPart.R⟩]) hd0 Dr.std (some 0) fuel (bodyOf Try.f21) 28 [4, 5] args [] = some (v, new) := by
  intro args v new h
  unfold R at h
  split at h
  · rename_i p t ws m i
    simp only [Option.some.injEq, Prod.mk.injEq, Bool.and_eq_true, decide_eq_true_eq] at h
    obtain ⟨⟨⟨rfl, h1, h2⟩, hs, hf⟩, rfl, rfl⟩ := h
    have hs2 := hs
    obtain ⟨p, t, rfl, rfl, hp, ht, hw, v⟩ := vp.valid hs2
    refine ⟨0, ?_⟩
    rw [go]
    simp -implicitDefEqProofs (disch := omega) only [hs, hf, take_one, set_one, decide_eq_true, decide_eq_false, IntWalk.i64_in, beqT, beqF, bneT, bneF, nat_succ, ← Int.natCast_mul, ← Int.natCast_add, Int.toNat_natCast, Int.zero_mul, Int.zero_add, Int.add_zero, Nat.zero_add, Nat.add_zero, Nat.zero_mul, List.length_singleton, List.length_append, List.length_nil, List.length_cons, List.take_length, List.drop_zero, List.replicate_zero, List.take_nil, List.nil_append, Nat.reduceBEq, Nat.reduceMul, Nat.reduceLeDiff, eq_self, and_self, true_and, and_true, decide_true, decide_false, Bool.and_self, Bool.or_self, Bool.and_true, Bool.true_and, Bool.and_false, Bool.false_and, Bool.or_true, Bool.true_or, Bool.or_false, Bool.false_or, Bool.not_true, Bool.not_false, cond_true, cond_false]
    try rfl
  · cases h
theorem ok : EntOk Try.prog ⟨21, R⟩ :=
  ent_okA mixed (A := (orc [⟨73, iValidValues.R⟩, ⟨76, within.R⟩, ⟨75, vLeastPart.R⟩])) (orc_ok (by simp only [List.mem_cons, List.not_mem_nil, or_false, forall_eq_or_imp, forall_eq]; exact ⟨iValidValues.ok, within.ok, vLeastPart.ok⟩)) Try.func21 (by kernel_rfl) (by kernel_rfl) (n := 28) (ts := [4, 5]) (hd := hd0) (dr := Dr.std) (cut := (some 0)) (by kernel_rfl) (by kernel_rfl) (by kernel_rfl) run
end iLeastPart

namespace bp
def pl.sv (t : Nat) (ws : List Int) (p n : Nat) : List Int := (List.range n).map fun i => ml.sv t ws p i
theorem pl_length (t : Nat) (ws : List Int) (p n : Nat) : (pl.sv t ws p n).length = n := by simp [pl.sv]
theorem pl_succ (t : Nat) (ws : List Int) (p n : Nat) : pl.sv t ws p n ++ [ml.sv t ws p n] = pl.sv t ws p (n + 1) := by simp [pl.sv, List.range_succ]
theorem pl_get {t : Nat} {ws : List Int} {p n i : Nat} (h : i < n) : gz (pl.sv t ws p n) i = ml.sv t ws p i := by rw [gz_eq (by rw [pl_length]; exact h)]; simp [pl.sv]
end bp

namespace iPartsShared
def R : List AVal → Option (Bool × AVal × List Blk)
  | [.agg [.int .i64 p, .int .i64 t, .ro (.ints .i64 ws) m 1], .int .i64 w] => some (decide (m = ws.length ∧ 1 ≤ w ∧ w ≤ 8) && (vp.sp p t ws && bp.few.sp p t), .tup [.own 0 0 p.toNat 0 1, .bool true], [⟨.typ (.ints .i64 (bp.pl.sv t.toNat ws p.toNat p.toNat)), 0⟩])
  | _ => none
def hd : Nat → Head := fun _ => ⟨[2, 6, 20, 21], some 2⟩
noncomputable def L (f n : Nat) (s : State) := loopAt Try.prog (orc [⟨73, iValidValues.R⟩, ⟨74, areWorkersP.R⟩, ⟨75, vLeastPart.R⟩]) hd Dr.std 0 f (bodyOf Try.f20) 0 [true, true, true, false, true] (retK Try.prog [4, 5] 0 none) n s
theorem start (p t : Int) (ws : List Int) (w : Int) (f : Nat) :
  runFn Try.prog (orc [⟨73, iValidValues.R⟩, ⟨74, areWorkersP.R⟩, ⟨75, vLeastPart.R⟩]) hd Dr.std none f (bodyOf Try.f20) 38 [4, 5] [.agg [.int .i64 p, .int .i64 t, .ro (.ints .i64 ws) ws.length 1], .int .i64 w] []
  = (bif true && true && (true && true && (true && true && true)) then bif decide (ws.length = ws.length) && vp.sp p t ws && (true && (true && (true && true)) && true || true && true) then bif true && (true && true || true && true) then bif !(decide ((1 : Int) ≤ w) && decide (w ≤ (8 : Int))) then some (AVal.tup [AVal.nils, AVal.bool false], [{ c := BC.cells [AVal.int IntKind.i64 p, AVal.int IntKind.i64 t, AVal.ro (Cont.ints IntKind.i64 ws) ws.length (1 : Nat)], ver := (0 : Nat) }]) else bif true && true then L f f (mkS (38 : Nat) [((2 : Nat), AVal.ptr (0 : Nat) (0 : Nat) (0 : Nat)), ((6 : Nat), AVal.own (1 : Nat) (0 : Nat) (0 : Nat) (0 : Nat) (1 : Nat)), ((20 : Nat), AVal.int IntKind.i64 p), ((21 : Nat), AVal.int IntKind.i64 (0 : Int))] [{ c := BC.cells [AVal.int IntKind.i64 p, AVal.int IntKind.i64 t, AVal.ro (Cont.ints IntKind.i64 ws) ws.length (1 : Nat)], ver := (0 : Nat) }, { c := BC.typ (Cont.ints IntKind.i64 (List.replicate (0 : Nat) (0 : Int))), ver := (0 : Nat) }]) else none else none else none else none) := by kernel_rfl
theorem round (p t : Int) (ws : List Int) (os : List Int) (q i f n : Nat) :
  L f (n + 1) (mkS 38 [(2, .ptr 0 0 0), (6, .own 1 0 q 0 1), (20, .int .i64 p), (21, .int .i64 i)] [⟨.cells [.int .i64 p, .int .i64 t, .ro (.ints .i64 ws) ws.length 1], 0⟩, ⟨.typ (.ints .i64 os), 0⟩])
  = (bif decide ((↑i : Int) < p) then bif true && true && (true && true && (true && true && true)) then bif decide (ws.length = ws.length ∧ (0 : Int) ≤ (↑i : Int) ∧ (↑i : Int) < p) && (vp.sp p t ws && bp.few.sp p t) && (true && (true && (true && true)) && (true && true) || true && true && true) then bif (1 : Nat) == (1 : Nat) && (1 : Nat) == (1 : Nat) && (true && (true && true) && (true && true && (decide (q + (List.take (1 : Nat) (List.drop (0 : Nat) ((List.replicate (1 : Nat) (0 : Int)).set (0 : Nat) (bp.ml.sv t.toNat ws p.toNat (↑i : Int).toNat)))).length ≤ (4611686018427387904 : Nat)) && decide ((q + (List.take (1 : Nat) (List.drop (0 : Nat) ((List.replicate (1 : Nat) (0 : Int)).set (0 : Nat) (bp.ml.sv t.toNat ws p.toNat (↑i : Int).toNat)))).length) * (8 : Nat) ≤ (140737488355328 : Nat))))) then L f n (mkS (38 : Nat) [((2 : Nat), AVal.ptr (0 : Nat) (0 : Nat) (0 : Nat)), ((6 : Nat), AVal.own (1 : Nat) (0 : Nat) (q + (List.take (1 : Nat) (List.drop (0 : Nat) ((List.replicate (1 : Nat) (0 : Int)).set (0 : Nat) (bp.ml.sv t.toNat ws p.toNat (↑i : Int).toNat)))).length) (0 : Nat) (1 : Nat)), ((20 : Nat), AVal.int IntKind.i64 p), ((21 : Nat), AVal.int IntKind.i64 (IntKind.i64.wrap ((↑i : Int) + (1 : Int))))] [{ c := BC.cells [AVal.int IntKind.i64 p, AVal.int IntKind.i64 t, AVal.ro (Cont.ints IntKind.i64 ws) ws.length (1 : Nat)], ver := (0 : Nat) }, { c := BC.typ (Cont.ints IntKind.i64 (List.take q os ++ List.take (1 : Nat) (List.drop (0 : Nat) ((List.replicate (1 : Nat) (0 : Int)).set (0 : Nat) (bp.ml.sv t.toNat ws p.toNat (↑i : Int).toNat))))), ver := (0 : Nat) }]) else none else none else none else some (AVal.tup [AVal.own (1 : Nat) (0 : Nat) q (0 : Nat) (1 : Nat), AVal.bool true], [{ c := BC.cells [AVal.int IntKind.i64 p, AVal.int IntKind.i64 t, AVal.ro (Cont.ints IntKind.i64 ws) ws.length (1 : Nat)], ver := (0 : Nat) }, { c := BC.typ (Cont.ints IntKind.i64 os), ver := (0 : Nat) }])) := by kernel_rfl
theorem loop (p t : Nat) (ws : List Int) (f : Nat) (hs : vp.sp p t ws = true) (hf : bp.few.sp p t = true) (hp : 1 ≤ p ∧ p ≤ 6) : ∀ (d k n : Nat), k + d = p → d < n →
    L f n (mkS 38 [(2, .ptr 0 0 0), (6, .own 1 0 k 0 1), (20, .int .i64 ((p : Nat) : Int)), (21, .int .i64 ((k : Nat) : Int))] [⟨.cells [.int .i64 ((p : Nat) : Int), .int .i64 ((t : Nat) : Int), .ro (.ints .i64 ws) ws.length 1], 0⟩, ⟨.typ (.ints .i64 (bp.pl.sv t ws p k)), 0⟩]) = some (.tup [.own 1 0 p 0 1, .bool true], [⟨.cells [.int .i64 ((p : Nat) : Int), .int .i64 ((t : Nat) : Int), .ro (.ints .i64 ws) ws.length 1], 0⟩, ⟨.typ (.ints .i64 (bp.pl.sv t ws p p)), 0⟩]) := by
  intro d
  induction d with
  | zero =>
    intro k n hk hn
    obtain ⟨n, rfl⟩ : ∃ k, n = k + 1 := ⟨n - 1, by omega⟩
    obtain rfl : k = p := by omega
    rw [round]
    simp -implicitDefEqProofs (disch := omega) only [hs, hf, take_one, set_one, decide_eq_true, decide_eq_false, IntWalk.i64_in, beqT, beqF, bneT, bneF, nat_succ, ← Int.natCast_mul, ← Int.natCast_add, Int.toNat_natCast, Int.zero_mul, Int.zero_add, Int.add_zero, Nat.zero_add, Nat.add_zero, Nat.zero_mul, List.length_singleton, List.length_append, List.length_nil, List.length_cons, List.take_length, List.drop_zero, List.replicate_zero, List.take_nil, List.nil_append, Nat.reduceBEq, Nat.reduceMul, Nat.reduceLeDiff, eq_self, and_self, true_and, and_true, decide_true, decide_false, Bool.and_self, Bool.or_self, Bool.and_true, Bool.true_and, Bool.and_false, Bool.false_and, Bool.or_true, Bool.true_or, Bool.or_false, Bool.false_or, Bool.not_true, Bool.not_false, cond_true, cond_false]
  | succ d ih =>
    intro k n hk hn
    obtain ⟨n, rfl⟩ : ∃ k, n = k + 1 := ⟨n - 1, by omega⟩
    have g := ih (k + 1) n (by omega) (by omega)
    have e := bp.pl_succ t ws p k
    have lo := bp.pl_length t ws p k
    have tz : (bp.pl.sv t ws p k).take k = bp.pl.sv t ws p k := List.take_of_length_le (by omega)
    rw [round]
    simp -implicitDefEqProofs (disch := omega) only [hs, hf, tz, e, take_one, set_one, decide_eq_true, decide_eq_false, IntWalk.i64_in, beqT, beqF, bneT, bneF, nat_succ, ← Int.natCast_mul, ← Int.natCast_add, Int.toNat_natCast, Int.zero_mul, Int.zero_add, Int.add_zero, Nat.zero_add, Nat.add_zero, Nat.zero_mul, List.length_singleton, List.length_append, List.length_nil, List.length_cons, List.take_length, List.drop_zero, List.replicate_zero, List.take_nil, List.nil_append, Nat.reduceBEq, Nat.reduceMul, Nat.reduceLeDiff, eq_self, and_self, true_and, and_true, decide_true, decide_false, Bool.and_self, Bool.or_self, Bool.and_true, Bool.true_and, Bool.and_false, Bool.false_and, Bool.or_true, Bool.true_or, Bool.or_false, Bool.false_or, Bool.not_true, Bool.not_false, cond_true, cond_false]
    exact g
theorem run : ∀ args v new, R args = some (true, v, new) → ∃ fuel, regc [1] (runFn Try.prog (orc [⟨73, iValidValues.R⟩, ⟨74, areWorkersP.R⟩, ⟨75, vLeastPart.R⟩]) hd Dr.std none fuel (bodyOf Try.f20) 38 [4, 5] args []) = some (v, new) := by
  intro args v new h
  unfold R at h
  split at h
  · rename_i p t ws m w
    simp only [Option.some.injEq, Prod.mk.injEq, Bool.and_eq_true, decide_eq_true_eq] at h
    obtain ⟨⟨⟨rfl, h1, h2⟩, hs, hf⟩, rfl, rfl⟩ := h
    have hs2 := hs
    obtain ⟨p, t, rfl, rfl, hp, ht, hw, v⟩ := vp.valid hs2
    obtain ⟨F, hF⟩ : ∃ F : Nat, F = 100 := ⟨100, rfl⟩
    refine ⟨F, ?_⟩
    have g := loop p t ws F hs hf hp p 0 F (by omega) (by omega)
    rw [start]
    simp -implicitDefEqProofs (disch := omega) only [hs, take_one, set_one, decide_eq_true, decide_eq_false, IntWalk.i64_in, beqT, beqF, bneT, bneF, nat_succ, ← Int.natCast_mul, ← Int.natCast_add, Int.toNat_natCast, Int.zero_mul, Int.zero_add, Int.add_zero, Nat.zero_add, Nat.add_zero, Nat.zero_mul, List.length_singleton, List.length_append, List.length_nil, List.length_cons, List.take_length, List.drop_zero, List.replicate_zero, List.take_nil, List.nil_append, Nat.reduceBEq, Nat.reduceMul, Nat.reduceLeDiff, eq_self, and_self, true_and, and_true, decide_true, decide_false, Bool.and_self, Bool.or_self, Bool.and_true, Bool.true_and, Bool.and_false, Bool.false_and, Bool.or_true, Bool.true_or, Bool.or_false, Bool.false_or, Bool.not_true, Bool.not_false, cond_true, cond_false]
    exact (congrArg (regc [1]) g).trans rfl
  · cases h
theorem ok : EntOk Try.prog ⟨20, R⟩ :=
  ent_okAG (ks := [1]) mixed (A := (orc [⟨73, iValidValues.R⟩, ⟨74, areWorkersP.R⟩, ⟨75, vLeastPart.R⟩])) (orc_ok (by simp only [List.mem_cons, List.not_mem_nil, or_false, forall_eq_or_imp, forall_eq]; exact ⟨iValidValues.ok, areWorkersP.ok, vLeastPart.ok⟩)) Try.func20 (by kernel_rfl) (by kernel_rfl) (n := 38) (ts := [4, 5]) (hd := hd) (dr := Dr.std) (cut := none) (by kernel_rfl) (by kernel_rfl) (by kernel_rfl) run
end iPartsShared

end Go.Proofs.Ytkoongajnnaeoaa.Ab
