/-
  Functions: the closures that keep the best owners.
-/
import Derived.Test.YtkoongajnnaeoaaFnPD
import Derived.Test.YtkoongajnnaeoaaFnQD
import Derived.Test.YtkoongajnnaeoaaAbFrz
import Derived.Test.YtkoongajnnaeoaaAbReW
namespace Go.Proofs.Ytkoongajnnaeoaa.Ab
open Go
set_option linter.unusedVariables false
set_option linter.unusedSimpArgs false
set_option maxRecDepth 100000

namespace bp
def Ts (t : Nat) (ws : List Int) (p : Nat) (os : List Int) : Int := sumOf.sp (vp.own.sv t ws os p)
def Tl (t : Nat) (ws : List Int) (p : Nat) (os : List Int) : Int := ln.low.sv (vp.own.sv t ws os p)
def Tp (t : Nat) (ws : List Int) (p : Nat) (os : List Int) : Int := pf.prod.sv (vp.own.sv t ws os p) p
theorem own_small {ws : List Int} (v : ∀ x ∈ ws, 0 ≤ x ∧ x ≤ 1000) (t : Nat) {os : List Int} (h : os.length ≤ 8) (p : Nat) : pf.small.sp (vp.own.sv t ws os p) = true := by
  simp only [pf.small.sp, List.all_eq_true, Bool.and_eq_true, decide_eq_true_eq]
  intro x hx
  simp only [vp.own.sv, List.mem_map] at hx
  obtain ⟨i, _, rfl⟩ := hx
  exact vp.part_in v t h i _
def up (T : List Int → Int) (xs best : List Int) (l : Int) : List Int × Int := bif decide (l < T xs) then (xs, T xs) else (best, l)
end bp

namespace slCloneP
def R : List AVal → Option (Bool × AVal × List Blk)
  | [.ro (.ints .i64 xs) m 1] => some (decide (0 < m ∧ m ≤ xs.length ∧ m ≤ 1048576), .own 0 0 m 0 1, [⟨.typ (.ints .i64 (xs.take m)), 0⟩])
  | _ => none
theorem go (xs : List Int) (m : Nat) :
  runFn Try.prog (orc []) hd0 Dr.std none 0 (bodyOf Try.f117) 8 [2] [.ro (.ints .i64 xs) (m + 1) 1] []
  = (bif (1 : Nat) == (1 : Nat) && (1 : Nat) == (1 : Nat) && (true && (true && true) && (true && (decide ((0 : Nat) + (List.take (m + (1 : Nat)) xs).length ≤ (4611686018427387904 : Nat)) && decide (((0 : Nat) + (List.take (m + (1 : Nat)) xs).length) * (8 : Nat) ≤ (140737488355328 : Nat))))) then some (AVal.own (0 : Nat) (0 : Nat) ((0 : Nat) + (List.take (m + (1 : Nat)) xs).length) (0 : Nat) (1 : Nat), [{ c := BC.typ (Cont.ints IntKind.i64 (List.take (0 : Nat) (List.replicate (0 : Nat) (0 : Int)) ++ List.take (m + (1 : Nat)) xs)), ver := (0 : Nat) }]) else none) := by kernel_rfl
theorem run : ∀ args v new, R args = some (true, v, new) → ∃ fuel, runFn Try.prog (orc []) hd0 Dr.std none fuel (bodyOf Try.f117) 8 [2] args [] = some (v, new) := by
  intro args v new h
  unfold R at h
  split at h
  · rename_i xs m
    simp only [Option.some.injEq, Prod.mk.injEq, decide_eq_true_eq] at h
    obtain ⟨⟨h1, h2, h3⟩, rfl, rfl⟩ := h
    obtain ⟨m, rfl⟩ : ∃ k, m = k + 1 := ⟨m - 1, by omega⟩
    refine ⟨0, ?_⟩
    have hl : (xs.take (m + 1)).length = m + 1 := by simp; omega
    rw [go]
    simp -implicitDefEqProofs (disch := omega) only [hl, take_one, set_one, decide_eq_true, decide_eq_false, IntWalk.i64_in, beqT, beqF, bneT, bneF, nat_succ, ← Int.natCast_mul, ← Int.natCast_add, Int.toNat_natCast, Int.zero_mul, Int.zero_add, Int.add_zero, Nat.zero_add, Nat.add_zero, Nat.zero_mul, List.length_singleton, List.length_append, List.length_nil, List.length_cons, List.take_length, List.drop_zero, List.replicate_zero, List.take_nil, List.nil_append, Nat.reduceBEq, Nat.reduceMul, Nat.reduceLeDiff, eq_self, and_self, true_and, and_true, decide_true, decide_false, Bool.and_self, Bool.or_self, Bool.and_true, Bool.true_and, Bool.and_false, Bool.false_and, Bool.or_true, Bool.true_or, Bool.or_false, Bool.false_or, Bool.not_true, Bool.not_false, cond_true, cond_false]
  · cases h
theorem ok : EntOk Try.prog ⟨117, R⟩ :=
  ent_okA mixed (A := (orc [])) (orc_ok (by simp)) Try.func117 (by kernel_rfl) (by kernel_rfl) (n := 8) (ts := [2]) (hd := hd0) (dr := Dr.std) (cut := none) (by kernel_rfl) (by kernel_rfl) (by kernel_rfl) run
end slCloneP

namespace cloNS
def R : List AVal → Heap → Option (Bool × AVal × Heap)
  | [.own 0 0 m 0 1, .ptr 1 0 0, .ptr 2 0 0, .ptr 3 0 0, .ptr 4 0 0], [⟨.typ (.ints .i64 os), 0⟩, ⟨.cells [.fn ff []], 0⟩, ⟨.cells [.int .i64 p, .int .i64 t, .ro (.ints .i64 ws) mw 1], 0⟩, ⟨.cells [.nils], 0⟩, ⟨.cells [.int .i64 l], 0⟩] => some (decide (ff = 69 ∧ mw = ws.length ∧ m = os.length ∧ (m : Int) = t) && vp.sp p t ws, .tup [], [⟨.typ (.ints .i64 os), 0⟩, ⟨.cells [.fn 69 []], 0⟩, ⟨.cells [.int .i64 p, .int .i64 t, .ro (.ints .i64 ws) mw 1], 0⟩, ⟨.cells [.own 5 0 m 0 1], 0⟩, ⟨.cells [.int .i64 (bp.Ts t.toNat ws p.toNat os)], 0⟩, ⟨.typ (.ints .i64 os), 0⟩])
  | _, _ => none
theorem go (p t : Int) (ws os bs : List Int) (mw m k : Nat) (l : Int) :
  runFn Try.prog (orcF [⟨67, layF vOwn.R⟩] (orc [⟨69, sumOf.R⟩, ⟨117, slCloneP.R⟩])) hd0 Dr.std (some 1) 0 (bodyOf Try.f128) 22 [] [.own 0 0 m 0 1, .ptr 1 0 0, .ptr 2 0 0, .ptr 3 0 0, .ptr 4 0 0] [⟨.typ (.ints .i64 os), 0⟩, ⟨.cells [.fn 69 []], 0⟩, ⟨.cells [.int .i64 p, .int .i64 t, .ro (.ints .i64 ws) mw 1], 0⟩, ⟨.cells [.nils], 0⟩, ⟨.cells [.int .i64 l], 0⟩]
  = (bif true && (true && (true && (true && (true && true)))) then bif true && true && (true && true && (true && true && true)) then bif decide (mw = ws.length ∧ m = os.length ∧ (↑m : Int) = t) && vp.sp p t ws && (true && (true && true)) then bif decide (p.toNat ≤ (vp.own.sv t.toNat ws os p.toNat).length ∧ p.toNat ≤ (4611686018427387904 : Nat)) && (true && true || true && true) then bif decide ((0 : Nat) < m ∧ m ≤ os.length ∧ m ≤ (1048576 : Nat)) && (false && true || true && (true && true)) then some (AVal.tup [], [{ c := BC.typ (Cont.ints IntKind.i64 os), ver := (0 : Nat) }, { c := BC.cells [AVal.fn (69 : Nat) []], ver := (0 : Nat) }, { c := BC.cells [AVal.int IntKind.i64 p, AVal.int IntKind.i64 t, AVal.ro (Cont.ints IntKind.i64 ws) mw (1 : Nat)], ver := (0 : Nat) }, { c := BC.cells [AVal.own ((1 : Nat) + (1 : Nat) + (1 : Nat) + (1 : Nat) + (1 : Nat) + (0 : Nat)) (0 : Nat) m (0 : Nat) (1 : Nat)], ver := (0 : Nat) }, { c := BC.cells [AVal.int IntKind.i64 (sumOf.sp (List.take p.toNat (vp.own.sv t.toNat ws os p.toNat)))], ver := (0 : Nat) }, { c := BC.typ (Cont.ints IntKind.i64 (List.take m os)), ver := (0 : Nat) }]) else none else none else none else none else none) := by kernel_rfl
theorem run : ∀ args H v new, R args H = some (true, v, new) → ∃ fuel, runFn Try.prog (orcF [⟨67, layF vOwn.R⟩] (orc [⟨69, sumOf.R⟩, ⟨117, slCloneP.R⟩])) hd0 Dr.std (some 1) fuel (bodyOf Try.f128) 22 [] args H = some (v, new) := by
  intro args H v new h
  unfold R at h
  split at h
  · rename_i m os ff p t ws mw l
    simp only [Option.some.injEq, Prod.mk.injEq, Bool.and_eq_true, decide_eq_true_eq] at h
    obtain ⟨⟨⟨rfl, rfl, rfl, h3⟩, hs⟩, rfl, rfl⟩ := h
    have hs2 := hs
    obtain ⟨p, t, rfl, rfl, hp, ht, hw, v⟩ := vp.valid hs2
    have ol := vp.own_length t ws os p
    have hsm := bp.own_small v t (os := os) (by omega) p
    have tk : (vp.own.sv t ws os p).take p = vp.own.sv t ws os p := List.take_of_length_le (by omega)
    refine ⟨0, ?_⟩
    have eT : sumOf.sp (vp.own.sv t ws os p) = bp.Ts t ws p os := rfl
    rw [go (bs := []) (k := 0)]
    simp -implicitDefEqProofs (disch := omega) only [hs, hsm, tk, eT, take_one, set_one, decide_eq_true, decide_eq_false, IntWalk.i64_in, beqT, beqF, bneT, bneF, nat_succ, ← Int.natCast_mul, ← Int.natCast_add, Int.toNat_natCast, Int.zero_mul, Int.zero_add, Int.add_zero, Nat.zero_add, Nat.add_zero, Nat.zero_mul, List.length_singleton, List.length_append, List.length_nil, List.length_cons, List.take_length, List.drop_zero, List.replicate_zero, List.take_nil, List.nil_append, Nat.reduceBEq, Nat.reduceMul, Nat.reduceLeDiff, eq_self, and_self, true_and, and_true, decide_true, decide_false, Bool.and_self, Bool.or_self, Bool.and_true, Bool.true_and, Bool.and_false, Bool.false_and, Bool.or_true, Bool.true_or, Bool.or_false, Bool.false_or, Bool.not_true, Bool.not_false, cond_true, cond_false]
  · cases h
theorem ok : EntWOk Try.prog ⟨128, R⟩ :=
  entw_ok mixed (A := (orcF [⟨67, layF vOwn.R⟩] (orc [⟨69, sumOf.R⟩, ⟨117, slCloneP.R⟩]))) (orcF_ok (by simp only [List.mem_cons, List.not_mem_nil, or_false, forall_eq_or_imp, forall_eq]; exact vOwn.ok.frz) (orc_ok (by simp only [List.mem_cons, List.not_mem_nil, or_false, forall_eq_or_imp, forall_eq]; exact ⟨sumOf.ok, slCloneP.ok⟩))) Try.func128 (by kernel_rfl) (by kernel_rfl) (n := 22) (ts := []) (hd := hd0) (dr := Dr.std) (cut := (some 1)) (by kernel_rfl) (by kernel_rfl) (by kernel_rfl) run
end cloNS

namespace cloSS
def R : List AVal → Heap → Option (Bool × AVal × Heap)
  | [.own 0 0 m 0 1, .ptr 1 0 0, .ptr 2 0 0, .ptr 3 0 0, .ptr 5 0 0], [⟨.typ (.ints .i64 os), 0⟩, ⟨.cells [.fn ff []], 0⟩, ⟨.cells [.int .i64 p, .int .i64 t, .ro (.ints .i64 ws) mw 1], 0⟩, ⟨.cells [.own 4 0 k 0 1], 0⟩, ⟨.typ (.ints .i64 bs), 0⟩, ⟨.cells [.int .i64 l], 0⟩] => some (decide (ff = 69 ∧ mw = ws.length ∧ m = os.length ∧ (m : Int) = t ∧ l < (bp.Ts t.toNat ws p.toNat os)) && vp.sp p t ws, .tup [], [⟨.typ (.ints .i64 os), 0⟩, ⟨.cells [.fn 69 []], 0⟩, ⟨.cells [.int .i64 p, .int .i64 t, .ro (.ints .i64 ws) mw 1], 0⟩, ⟨.cells [.own 6 0 m 0 1], 0⟩, ⟨.typ (.ints .i64 bs), 0⟩, ⟨.cells [.int .i64 (bp.Ts t.toNat ws p.toNat os)], 0⟩, ⟨.typ (.ints .i64 os), 0⟩])
  | _, _ => none
theorem go (p t : Int) (ws os bs : List Int) (mw m k : Nat) (l : Int) :
  runFn Try.prog (orcF [⟨67, layF vOwn.R⟩] (orc [⟨69, sumOf.R⟩, ⟨117, slCloneP.R⟩])) hd0 Dr.std (some 1) 0 (bodyOf Try.f128) 22 [] [.own 0 0 m 0 1, .ptr 1 0 0, .ptr 2 0 0, .ptr 3 0 0, .ptr 5 0 0] [⟨.typ (.ints .i64 os), 0⟩, ⟨.cells [.fn 69 []], 0⟩, ⟨.cells [.int .i64 p, .int .i64 t, .ro (.ints .i64 ws) mw 1], 0⟩, ⟨.cells [.own 4 0 k 0 1], 0⟩, ⟨.typ (.ints .i64 bs), 0⟩, ⟨.cells [.int .i64 l], 0⟩]
  = (bif true && (true && (true && (true && (true && (true && true))))) then bif true && true && (true && true && (true && true && true)) then bif decide (mw = ws.length ∧ m = os.length ∧ (↑m : Int) = t) && vp.sp p t ws && (true && (true && true)) then bif decide (p.toNat ≤ (vp.own.sv t.toNat ws os p.toNat).length ∧ p.toNat ≤ (4611686018427387904 : Nat)) && (true && true || true && true) then bif true && true then bif true && true then bif decide (l < sumOf.sp (List.take p.toNat (vp.own.sv t.toNat ws os p.toNat))) then bif decide ((0 : Nat) < m ∧ m ≤ os.length ∧ m ≤ (1048576 : Nat)) && (false && true || true && (true && true)) then some (AVal.tup [], [{ c := BC.typ (Cont.ints IntKind.i64 os), ver := (0 : Nat) }, { c := BC.cells [AVal.fn (69 : Nat) []], ver := (0 : Nat) }, { c := BC.cells [AVal.int IntKind.i64 p, AVal.int IntKind.i64 t, AVal.ro (Cont.ints IntKind.i64 ws) mw (1 : Nat)], ver := (0 : Nat) }, { c := BC.cells [AVal.own ((1 : Nat) + (1 : Nat) + (1 : Nat) + (1 : Nat) + (1 : Nat) + (1 : Nat) + (0 : Nat)) (0 : Nat) m (0 : Nat) (1 : Nat)], ver := (0 : Nat) }, { c := BC.typ (Cont.ints IntKind.i64 bs), ver := (0 : Nat) }, { c := BC.cells [AVal.int IntKind.i64 (sumOf.sp (List.take p.toNat (vp.own.sv t.toNat ws os p.toNat)))], ver := (0 : Nat) }, { c := BC.typ (Cont.ints IntKind.i64 (List.take m os)), ver := (0 : Nat) }]) else none else some (AVal.tup [], [{ c := BC.typ (Cont.ints IntKind.i64 os), ver := (0 : Nat) }, { c := BC.cells [AVal.fn (69 : Nat) []], ver := (0 : Nat) }, { c := BC.cells [AVal.int IntKind.i64 p, AVal.int IntKind.i64 t, AVal.ro (Cont.ints IntKind.i64 ws) mw (1 : Nat)], ver := (0 : Nat) }, { c := BC.cells [AVal.own (4 : Nat) (0 : Nat) k (0 : Nat) (1 : Nat)], ver := (0 : Nat) }, { c := BC.typ (Cont.ints IntKind.i64 bs), ver := (0 : Nat) }, { c := BC.cells [AVal.int IntKind.i64 l], ver := (0 : Nat) }]) else none else none else none else none else none else none) := by kernel_rfl
theorem run : ∀ args H v new, R args H = some (true, v, new) → ∃ fuel, runFn Try.prog (orcF [⟨67, layF vOwn.R⟩] (orc [⟨69, sumOf.R⟩, ⟨117, slCloneP.R⟩])) hd0 Dr.std (some 1) fuel (bodyOf Try.f128) 22 [] args H = some (v, new) := by
  intro args H v new h
  unfold R at h
  split at h
  · rename_i m os ff p t ws mw k bs l
    simp only [Option.some.injEq, Prod.mk.injEq, Bool.and_eq_true, decide_eq_true_eq] at h
    obtain ⟨⟨⟨rfl, rfl, rfl, h3, hlt⟩, hs⟩, rfl, rfl⟩ := h
    have hs2 := hs
    obtain ⟨p, t, rfl, rfl, hp, ht, hw, v⟩ := vp.valid hs2
    have ol := vp.own_length t ws os p
    have hsm := bp.own_small v t (os := os) (by omega) p
    have tk : (vp.own.sv t ws os p).take p = vp.own.sv t ws os p := List.take_of_length_le (by omega)
    refine ⟨0, ?_⟩
    have eT : sumOf.sp (vp.own.sv t ws os p) = bp.Ts t ws p os := rfl
    rw [Int.toNat_natCast, Int.toNat_natCast] at hlt
    rw [go]
    simp -implicitDefEqProofs (disch := omega) only [hs, hsm, tk, eT, take_one, set_one, decide_eq_true, decide_eq_false, IntWalk.i64_in, beqT, beqF, bneT, bneF, nat_succ, ← Int.natCast_mul, ← Int.natCast_add, Int.toNat_natCast, Int.zero_mul, Int.zero_add, Int.add_zero, Nat.zero_add, Nat.add_zero, Nat.zero_mul, List.length_singleton, List.length_append, List.length_nil, List.length_cons, List.take_length, List.drop_zero, List.replicate_zero, List.take_nil, List.nil_append, Nat.reduceBEq, Nat.reduceMul, Nat.reduceLeDiff, eq_self, and_self, true_and, and_true, decide_true, decide_false, Bool.and_self, Bool.or_self, Bool.and_true, Bool.true_and, Bool.and_false, Bool.false_and, Bool.or_true, Bool.true_or, Bool.or_false, Bool.false_or, Bool.not_true, Bool.not_false, cond_true, cond_false]
  · cases h
theorem ok : EntWOk Try.prog ⟨128, R⟩ :=
  entw_ok mixed (A := (orcF [⟨67, layF vOwn.R⟩] (orc [⟨69, sumOf.R⟩, ⟨117, slCloneP.R⟩]))) (orcF_ok (by simp only [List.mem_cons, List.not_mem_nil, or_false, forall_eq_or_imp, forall_eq]; exact vOwn.ok.frz) (orc_ok (by simp only [List.mem_cons, List.not_mem_nil, or_false, forall_eq_or_imp, forall_eq]; exact ⟨sumOf.ok, slCloneP.ok⟩))) Try.func128 (by kernel_rfl) (by kernel_rfl) (n := 22) (ts := []) (hd := hd0) (dr := Dr.std) (cut := (some 1)) (by kernel_rfl) (by kernel_rfl) (by kernel_rfl) run
end cloSS

namespace cloKS
def R : List AVal → Heap → Option (Bool × AVal × Heap)
  | [.own 0 0 m 0 1, .ptr 1 0 0, .ptr 2 0 0, .ptr 3 0 0, .ptr 5 0 0], [⟨.typ (.ints .i64 os), 0⟩, ⟨.cells [.fn ff []], 0⟩, ⟨.cells [.int .i64 p, .int .i64 t, .ro (.ints .i64 ws) mw 1], 0⟩, ⟨.cells [.own 4 0 k 0 1], 0⟩, ⟨.typ (.ints .i64 bs), 0⟩, ⟨.cells [.int .i64 l], 0⟩] => some (decide (ff = 69 ∧ mw = ws.length ∧ m = os.length ∧ (m : Int) = t ∧ ¬ (l < (bp.Ts t.toNat ws p.toNat os))) && vp.sp p t ws, .tup [], [⟨.typ (.ints .i64 os), 0⟩, ⟨.cells [.fn 69 []], 0⟩, ⟨.cells [.int .i64 p, .int .i64 t, .ro (.ints .i64 ws) mw 1], 0⟩, ⟨.cells [.own 4 0 k 0 1], 0⟩, ⟨.typ (.ints .i64 bs), 0⟩, ⟨.cells [.int .i64 l], 0⟩])
  | _, _ => none
theorem go (p t : Int) (ws os bs : List Int) (mw m k : Nat) (l : Int) :
  runFn Try.prog (orcF [⟨67, layF vOwn.R⟩] (orc [⟨69, sumOf.R⟩])) hd0 Dr.std (some 0) 0 (bodyOf Try.f128) 22 [] [.own 0 0 m 0 1, .ptr 1 0 0, .ptr 2 0 0, .ptr 3 0 0, .ptr 5 0 0] [⟨.typ (.ints .i64 os), 0⟩, ⟨.cells [.fn 69 []], 0⟩, ⟨.cells [.int .i64 p, .int .i64 t, .ro (.ints .i64 ws) mw 1], 0⟩, ⟨.cells [.own 4 0 k 0 1], 0⟩, ⟨.typ (.ints .i64 bs), 0⟩, ⟨.cells [.int .i64 l], 0⟩]
  = (bif true && (true && (true && (true && (true && (true && true))))) then bif true && true && (true && true && (true && true && true)) then bif decide (mw = ws.length ∧ m = os.length ∧ (↑m : Int) = t) && vp.sp p t ws && (true && (true && true)) then bif decide (p.toNat ≤ (vp.own.sv t.toNat ws os p.toNat).length ∧ p.toNat ≤ (4611686018427387904 : Nat)) && (true && true || true && true) then bif true && true then bif true && true then bif decide (l < sumOf.sp (List.take p.toNat (vp.own.sv t.toNat ws os p.toNat))) then none else some (AVal.tup [], [{ c := BC.typ (Cont.ints IntKind.i64 os), ver := (0 : Nat) }, { c := BC.cells [AVal.fn (69 : Nat) []], ver := (0 : Nat) }, { c := BC.cells [AVal.int IntKind.i64 p, AVal.int IntKind.i64 t, AVal.ro (Cont.ints IntKind.i64 ws) mw (1 : Nat)], ver := (0 : Nat) }, { c := BC.cells [AVal.own (4 : Nat) (0 : Nat) k (0 : Nat) (1 : Nat)], ver := (0 : Nat) }, { c := BC.typ (Cont.ints IntKind.i64 bs), ver := (0 : Nat) }, { c := BC.cells [AVal.int IntKind.i64 l], ver := (0 : Nat) }]) else none else none else none else none else none else none) := by kernel_rfl
theorem run : ∀ args H v new, R args H = some (true, v, new) → ∃ fuel, runFn Try.prog (orcF [⟨67, layF vOwn.R⟩] (orc [⟨69, sumOf.R⟩])) hd0 Dr.std (some 0) fuel (bodyOf Try.f128) 22 [] args H = some (v, new) := by
  intro args H v new h
  unfold R at h
  split at h
  · rename_i m os ff p t ws mw k bs l
    simp only [Option.some.injEq, Prod.mk.injEq, Bool.and_eq_true, decide_eq_true_eq] at h
    obtain ⟨⟨⟨rfl, rfl, rfl, h3, hlt⟩, hs⟩, rfl, rfl⟩ := h
    have hs2 := hs
    obtain ⟨p, t, rfl, rfl, hp, ht, hw, v⟩ := vp.valid hs2
    have ol := vp.own_length t ws os p
    have hsm := bp.own_small v t (os := os) (by omega) p
    have tk : (vp.own.sv t ws os p).take p = vp.own.sv t ws os p := List.take_of_length_le (by omega)
    refine ⟨0, ?_⟩
    have eT : sumOf.sp (vp.own.sv t ws os p) = bp.Ts t ws p os := rfl
    rw [Int.toNat_natCast, Int.toNat_natCast] at hlt
    rw [go]
    simp -implicitDefEqProofs (disch := omega) only [hs, hsm, tk, eT, take_one, set_one, decide_eq_true, decide_eq_false, IntWalk.i64_in, beqT, beqF, bneT, bneF, nat_succ, ← Int.natCast_mul, ← Int.natCast_add, Int.toNat_natCast, Int.zero_mul, Int.zero_add, Int.add_zero, Nat.zero_add, Nat.add_zero, Nat.zero_mul, List.length_singleton, List.length_append, List.length_nil, List.length_cons, List.take_length, List.drop_zero, List.replicate_zero, List.take_nil, List.nil_append, Nat.reduceBEq, Nat.reduceMul, Nat.reduceLeDiff, eq_self, and_self, true_and, and_true, decide_true, decide_false, Bool.and_self, Bool.or_self, Bool.and_true, Bool.true_and, Bool.and_false, Bool.false_and, Bool.or_true, Bool.true_or, Bool.or_false, Bool.false_or, Bool.not_true, Bool.not_false, cond_true, cond_false]
  · cases h
theorem ok : EntWOk Try.prog ⟨128, R⟩ :=
  entw_ok mixed (A := (orcF [⟨67, layF vOwn.R⟩] (orc [⟨69, sumOf.R⟩]))) (orcF_ok (by simp only [List.mem_cons, List.not_mem_nil, or_false, forall_eq_or_imp, forall_eq]; exact vOwn.ok.frz) (orc_ok (by simp only [List.mem_cons, List.not_mem_nil, or_false, forall_eq_or_imp, forall_eq]; exact sumOf.ok))) Try.func128 (by kernel_rfl) (by kernel_rfl) (n := 22) (ts := []) (hd := hd0) (dr := Dr.std) (cut := (some 0)) (by kernel_rfl) (by kernel_rfl) (by kernel_rfl) run
end cloKS

namespace cloBS
def R : List AVal → Heap → Option (Bool × AVal × Heap)
  | [.own 0 0 m 0 1, .ptr 1 0 0, .ptr 2 0 0, .ptr 3 0 0, .ptr 5 0 0], [⟨.typ (.ints .i64 os), 0⟩, ⟨.cells [.fn ff []], 0⟩, ⟨.cells [.int .i64 p, .int .i64 t, .ro (.ints .i64 ws) mw 1], 0⟩, ⟨.cells [.own 4 0 k 0 1], 0⟩, ⟨.typ (.ints .i64 bs), 0⟩, ⟨.cells [.int .i64 l], 0⟩] => some (decide (ff = 69 ∧ mw = ws.length ∧ m = os.length ∧ (m : Int) = t ∧ k = bs.length ∧ k = m) && vp.sp p t ws, .tup [], [⟨.typ (.ints .i64 os), 0⟩, ⟨.cells [.fn 69 []], 0⟩, ⟨.cells [.int .i64 p, .int .i64 t, .ro (.ints .i64 ws) mw 1], 0⟩, ⟨.cells [.own 4 0 m 1 1], 0⟩, ⟨.typ (.ints .i64 (bp.up (bp.Ts t.toNat ws p.toNat) os bs l).1), 1⟩, ⟨.cells [.int .i64 (bp.up (bp.Ts t.toNat ws p.toNat) os bs l).2], 0⟩])
  | _, _ => none
def Rs := reWR [0, 1, 2, 3, 6, 5] (fun l ver => bif eqN l 6 then 1 else ver) cloSS.R
def Rk := reWR [0, 1, 2, 3, 4, 5] (fun l ver => bif eqN l 4 then 1 else ver) cloKS.R
theorem ok : EntWOk Try.prog ⟨128, R⟩ := by
  refine EntWOk.cases (R1 := Rs) (R2 := Rk) (cloSS.ok.reW _ _) (cloKS.ok.reW _ _) fun args H v H' h => ?_
  unfold R at h
  split at h
  · rename_i m os ff p t ws mw k bs l
    simp only [Option.some.injEq, Prod.mk.injEq, Bool.and_eq_true, decide_eq_true_eq] at h
    obtain ⟨⟨⟨rfl, rfl, rfl, h3, rfl, h9⟩, hv⟩, rfl, rfl⟩ := h
    by_cases hlt : l < (bp.Ts t.toNat ws p.toNat os)
    · left
      have hs : cloSS.R [.own 0 0 os.length 0 1, .ptr 1 0 0, .ptr 2 0 0, .ptr 3 0 0, .ptr 5 0 0] [⟨.typ (.ints .i64 os), 0⟩, ⟨.cells [.fn 69 []], 0⟩, ⟨.cells [.int .i64 p, .int .i64 t, .ro (.ints .i64 ws) ws.length 1], 0⟩, ⟨.cells [.own 4 0 bs.length 0 1], 0⟩, ⟨.typ (.ints .i64 bs), 0⟩, ⟨.cells [.int .i64 l], 0⟩] = some (true, .tup [], [⟨.typ (.ints .i64 os), 0⟩, ⟨.cells [.fn 69 []], 0⟩, ⟨.cells [.int .i64 p, .int .i64 t, .ro (.ints .i64 ws) ws.length 1], 0⟩, ⟨.cells [.own 6 0 os.length 0 1], 0⟩, ⟨.typ (.ints .i64 bs), 0⟩, ⟨.cells [.int .i64 (bp.Ts t.toNat ws p.toNat os)], 0⟩, ⟨.typ (.ints .i64 os), 0⟩]) := by
        simp only [cloSS.R, h3, hlt, hv, and_self, decide_true, Bool.and_self]
      unfold Rs reWR
      rw [hs]
      have e : bp.up (bp.Ts t.toNat ws p.toNat) os bs l = (os, (bp.Ts t.toNat ws p.toNat os)) := by simp only [bp.up, hlt, decide_true, cond_true]
      rw [e]
      try rw [h9]
      rfl
    · right
      have hs : cloKS.R [.own 0 0 os.length 0 1, .ptr 1 0 0, .ptr 2 0 0, .ptr 3 0 0, .ptr 5 0 0] [⟨.typ (.ints .i64 os), 0⟩, ⟨.cells [.fn 69 []], 0⟩, ⟨.cells [.int .i64 p, .int .i64 t, .ro (.ints .i64 ws) ws.length 1], 0⟩, ⟨.cells [.own 4 0 bs.length 0 1], 0⟩, ⟨.typ (.ints .i64 bs), 0⟩, ⟨.cells [.int .i64 l], 0⟩] = some (true, .tup [], [⟨.typ (.ints .i64 os), 0⟩, ⟨.cells [.fn 69 []], 0⟩, ⟨.cells [.int .i64 p, .int .i64 t, .ro (.ints .i64 ws) ws.length 1], 0⟩, ⟨.cells [.own 4 0 bs.length 0 1], 0⟩, ⟨.typ (.ints .i64 bs), 0⟩, ⟨.cells [.int .i64 l], 0⟩]) := by
        simp only [cloKS.R, h3, hlt, hv, not_false_eq_true, and_self, decide_true, Bool.and_self]
      unfold Rk reWR
      rw [hs]
      have e : bp.up (bp.Ts t.toNat ws p.toNat) os bs l = (bs, l) := by simp only [bp.up, hlt, decide_false, cond_false]
      rw [e, h9]
      rfl
  · cases h
end cloBS
namespace cloS
def R := orW cloNS.R cloBS.R
theorem ok : EntWOk Try.prog ⟨128, R⟩ := cloNS.ok.orW cloBS.ok
end cloS

namespace cloNL
def R : List AVal → Heap → Option (Bool × AVal × Heap)
  | [.own 0 0 m 0 1, .ptr 1 0 0, .ptr 2 0 0, .ptr 3 0 0, .ptr 4 0 0], [⟨.typ (.ints .i64 os), 0⟩, ⟨.cells [.fn ff []], 0⟩, ⟨.cells [.int .i64 p, .int .i64 t, .ro (.ints .i64 ws) mw 1], 0⟩, ⟨.cells [.nils], 0⟩, ⟨.cells [.int .i64 l], 0⟩] => some (decide (ff = 70 ∧ mw = ws.length ∧ m = os.length ∧ (m : Int) = t) && vp.sp p t ws, .tup [], [⟨.typ (.ints .i64 os), 0⟩, ⟨.cells [.fn 70 []], 0⟩, ⟨.cells [.int .i64 p, .int .i64 t, .ro (.ints .i64 ws) mw 1], 0⟩, ⟨.cells [.own 5 0 m 0 1], 0⟩, ⟨.cells [.int .i64 (bp.Tl t.toNat ws p.toNat os)], 0⟩, ⟨.typ (.ints .i64 os), 0⟩])
  | _, _ => none
theorem go (p t : Int) (ws os bs : List Int) (mw m k : Nat) (l : Int) :
  runFn Try.prog (orcF [⟨67, layF vOwn.R⟩] (orc [⟨70, leastClo.R⟩, ⟨117, slCloneP.R⟩])) hd0 Dr.std (some 1) 0 (bodyOf Try.f128) 22 [] [.own 0 0 m 0 1, .ptr 1 0 0, .ptr 2 0 0, .ptr 3 0 0, .ptr 4 0 0] [⟨.typ (.ints .i64 os), 0⟩, ⟨.cells [.fn 70 []], 0⟩, ⟨.cells [.int .i64 p, .int .i64 t, .ro (.ints .i64 ws) mw 1], 0⟩, ⟨.cells [.nils], 0⟩, ⟨.cells [.int .i64 l], 0⟩]
  = (bif true && (true && (true && (true && (true && true)))) then bif true && true && (true && true && (true && true && true)) then bif decide (mw = ws.length ∧ m = os.length ∧ (↑m : Int) = t) && vp.sp p t ws && (true && (true && true)) then bif decide ((0 : Nat) < p.toNat ∧ p.toNat ≤ (vp.own.sv t.toNat ws os p.toNat).length ∧ p.toNat ≤ (1000 : Nat)) && (true && true || true && true) then bif decide ((0 : Nat) < m ∧ m ≤ os.length ∧ m ≤ (1048576 : Nat)) && (false && true || true && (true && true)) then some (AVal.tup [], [{ c := BC.typ (Cont.ints IntKind.i64 os), ver := (0 : Nat) }, { c := BC.cells [AVal.fn (70 : Nat) []], ver := (0 : Nat) }, { c := BC.cells [AVal.int IntKind.i64 p, AVal.int IntKind.i64 t, AVal.ro (Cont.ints IntKind.i64 ws) mw (1 : Nat)], ver := (0 : Nat) }, { c := BC.cells [AVal.own ((1 : Nat) + (1 : Nat) + (1 : Nat) + (1 : Nat) + (1 : Nat) + (0 : Nat)) (0 : Nat) m (0 : Nat) (1 : Nat)], ver := (0 : Nat) }, { c := BC.cells [AVal.int IntKind.i64 (ln.low.sv (List.take p.toNat (vp.own.sv t.toNat ws os p.toNat)))], ver := (0 : Nat) }, { c := BC.typ (Cont.ints IntKind.i64 (List.take m os)), ver := (0 : Nat) }]) else none else none else none else none else none) := by kernel_rfl
theorem run : ∀ args H v new, R args H = some (true, v, new) → ∃ fuel, runFn Try.prog (orcF [⟨67, layF vOwn.R⟩] (orc [⟨70, leastClo.R⟩, ⟨117, slCloneP.R⟩])) hd0 Dr.std (some 1) fuel (bodyOf Try.f128) 22 [] args H = some (v, new) := by
  intro args H v new h
  unfold R at h
  split at h
  · rename_i m os ff p t ws mw l
    simp only [Option.some.injEq, Prod.mk.injEq, Bool.and_eq_true, decide_eq_true_eq] at h
    obtain ⟨⟨⟨rfl, rfl, rfl, h3⟩, hs⟩, rfl, rfl⟩ := h
    have hs2 := hs
    obtain ⟨p, t, rfl, rfl, hp, ht, hw, v⟩ := vp.valid hs2
    have ol := vp.own_length t ws os p
    have hsm := bp.own_small v t (os := os) (by omega) p
    have tk : (vp.own.sv t ws os p).take p = vp.own.sv t ws os p := List.take_of_length_le (by omega)
    refine ⟨0, ?_⟩
    have eT : ln.low.sv (vp.own.sv t ws os p) = bp.Tl t ws p os := rfl
    rw [go (bs := []) (k := 0)]
    simp -implicitDefEqProofs (disch := omega) only [hs, hsm, tk, eT, take_one, set_one, decide_eq_true, decide_eq_false, IntWalk.i64_in, beqT, beqF, bneT, bneF, nat_succ, ← Int.natCast_mul, ← Int.natCast_add, Int.toNat_natCast, Int.zero_mul, Int.zero_add, Int.add_zero, Nat.zero_add, Nat.add_zero, Nat.zero_mul, List.length_singleton, List.length_append, List.length_nil, List.length_cons, List.take_length, List.drop_zero, List.replicate_zero, List.take_nil, List.nil_append, Nat.reduceBEq, Nat.reduceMul, Nat.reduceLeDiff, eq_self, and_self, true_and, and_true, decide_true, decide_false, Bool.and_self, Bool.or_self, Bool.and_true, Bool.true_and, Bool.and_false, Bool.false_and, Bool.or_true, Bool.true_or, Bool.or_false, Bool.false_or, Bool.not_true, Bool.not_false, cond_true, cond_false]
  · cases h
theorem ok : EntWOk Try.prog ⟨128, R⟩ :=
  entw_ok mixed (A := (orcF [⟨67, layF vOwn.R⟩] (orc [⟨70, leastClo.R⟩, ⟨117, slCloneP.R⟩]))) (orcF_ok (by simp only [List.mem_cons, List.not_mem_nil, or_false, forall_eq_or_imp, forall_eq]; exact vOwn.ok.frz) (orc_ok (by simp only [List.mem_cons, List.not_mem_nil, or_false, forall_eq_or_imp, forall_eq]; exact ⟨leastClo.ok, slCloneP.ok⟩))) Try.func128 (by kernel_rfl) (by kernel_rfl) (n := 22) (ts := []) (hd := hd0) (dr := Dr.std) (cut := (some 1)) (by kernel_rfl) (by kernel_rfl) (by kernel_rfl) run
end cloNL

namespace cloSL
def R : List AVal → Heap → Option (Bool × AVal × Heap)
  | [.own 0 0 m 0 1, .ptr 1 0 0, .ptr 2 0 0, .ptr 3 0 0, .ptr 5 0 0], [⟨.typ (.ints .i64 os), 0⟩, ⟨.cells [.fn ff []], 0⟩, ⟨.cells [.int .i64 p, .int .i64 t, .ro (.ints .i64 ws) mw 1], 0⟩, ⟨.cells [.own 4 0 k 0 1], 0⟩, ⟨.typ (.ints .i64 bs), 0⟩, ⟨.cells [.int .i64 l], 0⟩] => some (decide (ff = 70 ∧ mw = ws.length ∧ m = os.length ∧ (m : Int) = t ∧ l < (bp.Tl t.toNat ws p.toNat os)) && vp.sp p t ws, .tup [], [⟨.typ (.ints .i64 os), 0⟩, ⟨.cells [.fn 70 []], 0⟩, ⟨.cells [.int .i64 p, .int .i64 t, .ro (.ints .i64 ws) mw 1], 0⟩, ⟨.cells [.own 6 0 m 0 1], 0⟩, ⟨.typ (.ints .i64 bs), 0⟩, ⟨.cells [.int .i64 (bp.Tl t.toNat ws p.toNat os)], 0⟩, ⟨.typ (.ints .i64 os), 0⟩])
  | _, _ => none
theorem go (p t : Int) (ws os bs : List Int) (mw m k : Nat) (l : Int) :
  runFn Try.prog (orcF [⟨67, layF vOwn.R⟩] (orc [⟨70, leastClo.R⟩, ⟨117, slCloneP.R⟩])) hd0 Dr.std (some 1) 0 (bodyOf Try.f128) 22 [] [.own 0 0 m 0 1, .ptr 1 0 0, .ptr 2 0 0, .ptr 3 0 0, .ptr 5 0 0] [⟨.typ (.ints .i64 os), 0⟩, ⟨.cells [.fn 70 []], 0⟩, ⟨.cells [.int .i64 p, .int .i64 t, .ro (.ints .i64 ws) mw 1], 0⟩, ⟨.cells [.own 4 0 k 0 1], 0⟩, ⟨.typ (.ints .i64 bs), 0⟩, ⟨.cells [.int .i64 l], 0⟩]
  = (bif true && (true && (true && (true && (true && (true && true))))) then bif true && true && (true && true && (true && true && true)) then bif decide (mw = ws.length ∧ m = os.length ∧ (↑m : Int) = t) && vp.sp p t ws && (true && (true && true)) then bif decide ((0 : Nat) < p.toNat ∧ p.toNat ≤ (vp.own.sv t.toNat ws os p.toNat).length ∧ p.toNat ≤ (1000 : Nat)) && (true && true || true && true) then bif true && true then bif true && true then bif decide (l < ln.low.sv (List.take p.toNat (vp.own.sv t.toNat ws os p.toNat))) then bif decide ((0 : Nat) < m ∧ m ≤ os.length ∧ m ≤ (1048576 : Nat)) && (false && true || true && (true && true)) then some (AVal.tup [], [{ c := BC.typ (Cont.ints IntKind.i64 os), ver := (0 : Nat) }, { c := BC.cells [AVal.fn (70 : Nat) []], ver := (0 : Nat) }, { c := BC.cells [AVal.int IntKind.i64 p, AVal.int IntKind.i64 t, AVal.ro (Cont.ints IntKind.i64 ws) mw (1 : Nat)], ver := (0 : Nat) }, { c := BC.cells [AVal.own ((1 : Nat) + (1 : Nat) + (1 : Nat) + (1 : Nat) + (1 : Nat) + (1 : Nat) + (0 : Nat)) (0 : Nat) m (0 : Nat) (1 : Nat)], ver := (0 : Nat) }, { c := BC.typ (Cont.ints IntKind.i64 bs), ver := (0 : Nat) }, { c := BC.cells [AVal.int IntKind.i64 (ln.low.sv (List.take p.toNat (vp.own.sv t.toNat ws os p.toNat)))], ver := (0 : Nat) }, { c := BC.typ (Cont.ints IntKind.i64 (List.take m os)), ver := (0 : Nat) }]) else none else some (AVal.tup [], [{ c := BC.typ (Cont.ints IntKind.i64 os), ver := (0 : Nat) }, { c := BC.cells [AVal.fn (70 : Nat) []], ver := (0 : Nat) }, { c := BC.cells [AVal.int IntKind.i64 p, AVal.int IntKind.i64 t, AVal.ro (Cont.ints IntKind.i64 ws) mw (1 : Nat)], ver := (0 : Nat) }, { c := BC.cells [AVal.own (4 : Nat) (0 : Nat) k (0 : Nat) (1 : Nat)], ver := (0 : Nat) }, { c := BC.typ (Cont.ints IntKind.i64 bs), ver := (0 : Nat) }, { c := BC.cells [AVal.int IntKind.i64 l], ver := (0 : Nat) }]) else none else none else none else none else none else none) := by kernel_rfl
theorem run : ∀ args H v new, R args H = some (true, v, new) → ∃ fuel, runFn Try.prog (orcF [⟨67, layF vOwn.R⟩] (orc [⟨70, leastClo.R⟩, ⟨117, slCloneP.R⟩])) hd0 Dr.std (some 1) fuel (bodyOf Try.f128) 22 [] args H = some (v, new) := by
  intro args H v new h
  unfold R at h
  split at h
  · rename_i m os ff p t ws mw k bs l
    simp only [Option.some.injEq, Prod.mk.injEq, Bool.and_eq_true, decide_eq_true_eq] at h
    obtain ⟨⟨⟨rfl, rfl, rfl, h3, hlt⟩, hs⟩, rfl, rfl⟩ := h
    have hs2 := hs
    obtain ⟨p, t, rfl, rfl, hp, ht, hw, v⟩ := vp.valid hs2
    have ol := vp.own_length t ws os p
    have hsm := bp.own_small v t (os := os) (by omega) p
    have tk : (vp.own.sv t ws os p).take p = vp.own.sv t ws os p := List.take_of_length_le (by omega)
    refine ⟨0, ?_⟩
    have eT : ln.low.sv (vp.own.sv t ws os p) = bp.Tl t ws p os := rfl
    rw [Int.toNat_natCast, Int.toNat_natCast] at hlt
    rw [go]
    simp -implicitDefEqProofs (disch := omega) only [hs, hsm, tk, eT, take_one, set_one, decide_eq_true, decide_eq_false, IntWalk.i64_in, beqT, beqF, bneT, bneF, nat_succ, ← Int.natCast_mul, ← Int.natCast_add, Int.toNat_natCast, Int.zero_mul, Int.zero_add, Int.add_zero, Nat.zero_add, Nat.add_zero, Nat.zero_mul, List.length_singleton, List.length_append, List.length_nil, List.length_cons, List.take_length, List.drop_zero, List.replicate_zero, List.take_nil, List.nil_append, Nat.reduceBEq, Nat.reduceMul, Nat.reduceLeDiff, eq_self, and_self, true_and, and_true, decide_true, decide_false, Bool.and_self, Bool.or_self, Bool.and_true, Bool.true_and, Bool.and_false, Bool.false_and, Bool.or_true, Bool.true_or, Bool.or_false, Bool.false_or, Bool.not_true, Bool.not_false, cond_true, cond_false]
  · cases h
theorem ok : EntWOk Try.prog ⟨128, R⟩ :=
  entw_ok mixed (A := (orcF [⟨67, layF vOwn.R⟩] (orc [⟨70, leastClo.R⟩, ⟨117, slCloneP.R⟩]))) (orcF_ok (by simp only [List.mem_cons, List.not_mem_nil, or_false, forall_eq_or_imp, forall_eq]; exact vOwn.ok.frz) (orc_ok (by simp only [List.mem_cons, List.not_mem_nil, or_false, forall_eq_or_imp, forall_eq]; exact ⟨leastClo.ok, slCloneP.ok⟩))) Try.func128 (by kernel_rfl) (by kernel_rfl) (n := 22) (ts := []) (hd := hd0) (dr := Dr.std) (cut := (some 1)) (by kernel_rfl) (by kernel_rfl) (by kernel_rfl) run
end cloSL

namespace cloKL
def R : List AVal → Heap → Option (Bool × AVal × Heap)
  | [.own 0 0 m 0 1, .ptr 1 0 0, .ptr 2 0 0, .ptr 3 0 0, .ptr 5 0 0], [⟨.typ (.ints .i64 os), 0⟩, ⟨.cells [.fn ff []], 0⟩, ⟨.cells [.int .i64 p, .int .i64 t, .ro (.ints .i64 ws) mw 1], 0⟩, ⟨.cells [.own 4 0 k 0 1], 0⟩, ⟨.typ (.ints .i64 bs), 0⟩, ⟨.cells [.int .i64 l], 0⟩] => some (decide (ff = 70 ∧ mw = ws.length ∧ m = os.length ∧ (m : Int) = t ∧ ¬ (l < (bp.Tl t.toNat ws p.toNat os))) && vp.sp p t ws, .tup [], [⟨.typ (.ints .i64 os), 0⟩, ⟨.cells [.fn 70 []], 0⟩, ⟨.cells [.int .i64 p, .int .i64 t, .ro (.ints .i64 ws) mw 1], 0⟩, ⟨.cells [.own 4 0 k 0 1], 0⟩, ⟨.typ (.ints .i64 bs), 0⟩, ⟨.cells [.int .i64 l], 0⟩])
  | _, _ => none
theorem go (p t : Int) (ws os bs : List Int) (mw m k : Nat) (l : Int) :
  runFn Try.prog (orcF [⟨67, layF vOwn.R⟩] (orc [⟨70, leastClo.R⟩])) hd0 Dr.std (some 0) 0 (bodyOf Try.f128) 22 [] [.own 0 0 m 0 1, .ptr 1 0 0, .ptr 2 0 0, .ptr 3 0 0, .ptr 5 0 0] [⟨.typ (.ints .i64 os), 0⟩, ⟨.cells [.fn 70 []], 0⟩, ⟨.cells [.int .i64 p, .int .i64 t, .ro (.ints .i64 ws) mw 1], 0⟩, ⟨.cells [.own 4 0 k 0 1], 0⟩, ⟨.typ (.ints .i64 bs), 0⟩, ⟨.cells [.int .i64 l], 0⟩]
  = (bif true && (true && (true && (true && (true && (true && true))))) then bif true && true && (true && true && (true && true && true)) then bif decide (mw = ws.length ∧ m = os.length ∧ (↑m : Int) = t) && vp.sp p t ws && (true && (true && true)) then bif decide ((0 : Nat) < p.toNat ∧ p.toNat ≤ (vp.own.sv t.toNat ws os p.toNat).length ∧ p.toNat ≤ (1000 : Nat)) && (true && true || true && true) then bif true && true then bif true && true then bif decide (l < ln.low.sv (List.take p.toNat (vp.own.sv t.toNat ws os p.toNat))) then none else some (AVal.tup [], [{ c := BC.typ (Cont.ints IntKind.i64 os), ver := (0 : Nat) }, { c := BC.cells [AVal.fn (70 : Nat) []], ver := (0 : Nat) }, { c := BC.cells [AVal.int IntKind.i64 p, AVal.int IntKind.i64 t, AVal.ro (Cont.ints IntKind.i64 ws) mw (1 : Nat)], ver := (0 : Nat) }, { c := BC.cells [AVal.own (4 : Nat) (0 : Nat) k (0 : Nat) (1 : Nat)], ver := (0 : Nat) }, { c := BC.typ (Cont.ints IntKind.i64 bs), ver := (0 : Nat) }, { c := BC.cells [AVal.int IntKind.i64 l], ver := (0 : Nat) }]) else none else none else none else none else none else none) := by kernel_rfl
theorem run : ∀ args H v new, R args H = some (true, v, new) → ∃ fuel, runFn Try.prog (orcF [⟨67, layF vOwn.R⟩] (orc [⟨70, leastClo.R⟩])) hd0 Dr.std (some 0) fuel (bodyOf Try.f128) 22 [] args H = some (v, new) := by
  intro args H v new h
  unfold R at h
  split at h
  · rename_i m os ff p t ws mw k bs l
    simp only [Option.some.injEq, Prod.mk.injEq, Bool.and_eq_true, decide_eq_true_eq] at h
    obtain ⟨⟨⟨rfl, rfl, rfl, h3, hlt⟩, hs⟩, rfl, rfl⟩ := h
    have hs2 := hs
    obtain ⟨p, t, rfl, rfl, hp, ht, hw, v⟩ := vp.valid hs2
    have ol := vp.own_length t ws os p
    have hsm := bp.own_small v t (os := os) (by omega) p
    have tk : (vp.own.sv t ws os p).take p = vp.own.sv t ws os p := List.take_of_length_le (by omega)
    refine ⟨0, ?_⟩
    have eT : ln.low.sv (vp.own.sv t ws os p) = bp.Tl t ws p os := rfl
    rw [Int.toNat_natCast, Int.toNat_natCast] at hlt
    rw [go]
    simp -implicitDefEqProofs (disch := omega) only [hs, hsm, tk, eT, take_one, set_one, decide_eq_true, decide_eq_false, IntWalk.i64_in, beqT, beqF, bneT, bneF, nat_succ, ← Int.natCast_mul, ← Int.natCast_add, Int.toNat_natCast, Int.zero_mul, Int.zero_add, Int.add_zero, Nat.zero_add, Nat.add_zero, Nat.zero_mul, List.length_singleton, List.length_append, List.length_nil, List.length_cons, List.take_length, List.drop_zero, List.replicate_zero, List.take_nil, List.nil_append, Nat.reduceBEq, Nat.reduceMul, Nat.reduceLeDiff, eq_self, and_self, true_and, and_true, decide_true, decide_false, Bool.and_self, Bool.or_self, Bool.and_true, Bool.true_and, Bool.and_false, Bool.false_and, Bool.or_true, Bool.true_or, Bool.or_false, Bool.false_or, Bool.not_true, Bool.not_false, cond_true, cond_false]
  · cases h
theorem ok : EntWOk Try.prog ⟨128, R⟩ :=
  entw_ok mixed (A := (orcF [⟨67, layF vOwn.R⟩] (orc [⟨70, leastClo.R⟩]))) (orcF_ok (by simp only [List.mem_cons, List.not_mem_nil, or_false, forall_eq_or_imp, forall_eq]; exact vOwn.ok.frz) (orc_ok (by simp only [List.mem_cons, List.not_mem_nil, or_false, forall_eq_or_imp, forall_eq]; exact leastClo.ok))) Try.func128 (by kernel_rfl) (by kernel_rfl) (n := 22) (ts := []) (hd := hd0) (dr := Dr.std) (cut := (some 0)) (by kernel_rfl) (by kernel_rfl) (by kernel_rfl) run
end cloKL

namespace cloBL
def R : List AVal → Heap → Option (Bool × AVal × Heap)
  | [.own 0 0 m 0 1, .ptr 1 0 0, .ptr 2 0 0, .ptr 3 0 0, .ptr 5 0 0], [⟨.typ (.ints .i64 os), 0⟩, ⟨.cells [.fn ff []], 0⟩, ⟨.cells [.int .i64 p, .int .i64 t, .ro (.ints .i64 ws) mw 1], 0⟩, ⟨.cells [.own 4 0 k 0 1], 0⟩, ⟨.typ (.ints .i64 bs), 0⟩, ⟨.cells [.int .i64 l], 0⟩] => some (decide (ff = 70 ∧ mw = ws.length ∧ m = os.length ∧ (m : Int) = t ∧ k = bs.length ∧ k = m) && vp.sp p t ws, .tup [], [⟨.typ (.ints .i64 os), 0⟩, ⟨.cells [.fn 70 []], 0⟩, ⟨.cells [.int .i64 p, .int .i64 t, .ro (.ints .i64 ws) mw 1], 0⟩, ⟨.cells [.own 4 0 m 1 1], 0⟩, ⟨.typ (.ints .i64 (bp.up (bp.Tl t.toNat ws p.toNat) os bs l).1), 1⟩, ⟨.cells [.int .i64 (bp.up (bp.Tl t.toNat ws p.toNat) os bs l).2], 0⟩])
  | _, _ => none
def Rs := reWR [0, 1, 2, 3, 6, 5] (fun l ver => bif eqN l 6 then 1 else ver) cloSL.R
def Rk := reWR [0, 1, 2, 3, 4, 5] (fun l ver => bif eqN l 4 then 1 else ver) cloKL.R
theorem ok : EntWOk Try.prog ⟨128, R⟩ := by
  refine EntWOk.cases (R1 := Rs) (R2 := Rk) (cloSL.ok.reW _ _) (cloKL.ok.reW _ _) fun args H v H' h => ?_
  unfold R at h
  split at h
  · rename_i m os ff p t ws mw k bs l
    simp only [Option.some.injEq, Prod.mk.injEq, Bool.and_eq_true, decide_eq_true_eq] at h
    obtain ⟨⟨⟨rfl, rfl, rfl, h3, rfl, h9⟩, hv⟩, rfl, rfl⟩ := h
    by_cases hlt : l < (bp.Tl t.toNat ws p.toNat os)
    · left
      have hs : cloSL.R [.own 0 0 os.length 0 1, .ptr 1 0 0, .ptr 2 0 0, .ptr 3 0 0, .ptr 5 0 0] [⟨.typ (.ints .i64 os), 0⟩, ⟨.cells [.fn 70 []], 0⟩, ⟨.cells [.int .i64 p, .int .i64 t, .ro (.ints .i64 ws) ws.length 1], 0⟩, ⟨.cells [.own 4 0 bs.length 0 1], 0⟩, ⟨.typ (.ints .i64 bs), 0⟩, ⟨.cells [.int .i64 l], 0⟩] = some (true, .tup [], [⟨.typ (.ints .i64 os), 0⟩, ⟨.cells [.fn 70 []], 0⟩, ⟨.cells [.int .i64 p, .int .i64 t, .ro (.ints .i64 ws) ws.length 1], 0⟩, ⟨.cells [.own 6 0 os.length 0 1], 0⟩, ⟨.typ (.ints .i64 bs), 0⟩, ⟨.cells [.int .i64 (bp.Tl t.toNat ws p.toNat os)], 0⟩, ⟨.typ (.ints .i64 os), 0⟩]) := by
        simp only [cloSL.R, h3, hlt, hv, and_self, decide_true, Bool.and_self]
      unfold Rs reWR
      rw [hs]
      have e : bp.up (bp.Tl t.toNat ws p.toNat) os bs l = (os, (bp.Tl t.toNat ws p.toNat os)) := by simp only [bp.up, hlt, decide_true, cond_true]
      rw [e]
      try rw [h9]
      rfl
    · right
      have hs : cloKL.R [.own 0 0 os.length 0 1, .ptr 1 0 0, .ptr 2 0 0, .ptr 3 0 0, .ptr 5 0 0] [⟨.typ (.ints .i64 os), 0⟩, ⟨.cells [.fn 70 []], 0⟩, ⟨.cells [.int .i64 p, .int .i64 t, .ro (.ints .i64 ws) ws.length 1], 0⟩, ⟨.cells [.own 4 0 bs.length 0 1], 0⟩, ⟨.typ (.ints .i64 bs), 0⟩, ⟨.cells [.int .i64 l], 0⟩] = some (true, .tup [], [⟨.typ (.ints .i64 os), 0⟩, ⟨.cells [.fn 70 []], 0⟩, ⟨.cells [.int .i64 p, .int .i64 t, .ro (.ints .i64 ws) ws.length 1], 0⟩, ⟨.cells [.own 4 0 bs.length 0 1], 0⟩, ⟨.typ (.ints .i64 bs), 0⟩, ⟨.cells [.int .i64 l], 0⟩]) := by
        simp only [cloKL.R, h3, hlt, hv, not_false_eq_true, and_self, decide_true, Bool.and_self]
      unfold Rk reWR
      rw [hs]
      have e : bp.up (bp.Tl t.toNat ws p.toNat) os bs l = (bs, l) := by simp only [bp.up, hlt, decide_false, cond_false]
      rw [e, h9]
      rfl
  · cases h
end cloBL
namespace cloL
def R := orW cloNL.R cloBL.R
theorem ok : EntWOk Try.prog ⟨128, R⟩ := cloNL.ok.orW cloBL.ok
end cloL

namespace cloNP
def R : List AVal → Heap → Option (Bool × AVal × Heap)
  | [.own 0 0 m 0 1, .ptr 1 0 0, .ptr 2 0 0, .ptr 3 0 0, .ptr 4 0 0], [⟨.typ (.ints .i64 os), 0⟩, ⟨.cells [.fn ff []], 0⟩, ⟨.cells [.int .i64 p, .int .i64 t, .ro (.ints .i64 ws) mw 1], 0⟩, ⟨.cells [.nils], 0⟩, ⟨.cells [.int .i64 l], 0⟩] => some (decide (ff = 72 ∧ mw = ws.length ∧ m = os.length ∧ (m : Int) = t) && vp.sp p t ws, .tup [], [⟨.typ (.ints .i64 os), 0⟩, ⟨.cells [.fn 72 []], 0⟩, ⟨.cells [.int .i64 p, .int .i64 t, .ro (.ints .i64 ws) mw 1], 0⟩, ⟨.cells [.own 5 0 m 0 1], 0⟩, ⟨.cells [.int .i64 (bp.Tp t.toNat ws p.toNat os)], 0⟩, ⟨.typ (.ints .i64 os), 0⟩])
  | _, _ => none
theorem go (p t : Int) (ws os bs : List Int) (mw m k : Nat) (l : Int) :
  runFn Try.prog (orcF [⟨67, layF vOwn.R⟩] (orc [⟨72, productOf.R⟩, ⟨117, slCloneP.R⟩])) hd0 Dr.std (some 1) 0 (bodyOf Try.f128) 22 [] [.own 0 0 m 0 1, .ptr 1 0 0, .ptr 2 0 0, .ptr 3 0 0, .ptr 4 0 0] [⟨.typ (.ints .i64 os), 0⟩, ⟨.cells [.fn 72 []], 0⟩, ⟨.cells [.int .i64 p, .int .i64 t, .ro (.ints .i64 ws) mw 1], 0⟩, ⟨.cells [.nils], 0⟩, ⟨.cells [.int .i64 l], 0⟩]
  = (bif true && (true && (true && (true && (true && true)))) then bif true && true && (true && true && (true && true && true)) then bif decide (mw = ws.length ∧ m = os.length ∧ (↑m : Int) = t) && vp.sp p t ws && (true && (true && true)) then bif decide (p.toNat ≤ (vp.own.sv t.toNat ws os p.toNat).length ∧ p.toNat ≤ (1000 : Nat)) && pf.small.sp (vp.own.sv t.toNat ws os p.toNat) && (true && true || true && true) then bif decide ((0 : Nat) < m ∧ m ≤ os.length ∧ m ≤ (1048576 : Nat)) && (false && true || true && (true && true)) then some (AVal.tup [], [{ c := BC.typ (Cont.ints IntKind.i64 os), ver := (0 : Nat) }, { c := BC.cells [AVal.fn (72 : Nat) []], ver := (0 : Nat) }, { c := BC.cells [AVal.int IntKind.i64 p, AVal.int IntKind.i64 t, AVal.ro (Cont.ints IntKind.i64 ws) mw (1 : Nat)], ver := (0 : Nat) }, { c := BC.cells [AVal.own ((1 : Nat) + (1 : Nat) + (1 : Nat) + (1 : Nat) + (1 : Nat) + (0 : Nat)) (0 : Nat) m (0 : Nat) (1 : Nat)], ver := (0 : Nat) }, { c := BC.cells [AVal.int IntKind.i64 (pf.prod.sv (vp.own.sv t.toNat ws os p.toNat) p.toNat)], ver := (0 : Nat) }, { c := BC.typ (Cont.ints IntKind.i64 (List.take m os)), ver := (0 : Nat) }]) else none else none else none else none else none) := by kernel_rfl
theorem run : ∀ args H v new, R args H = some (true, v, new) → ∃ fuel, runFn Try.prog (orcF [⟨67, layF vOwn.R⟩] (orc [⟨72, productOf.R⟩, ⟨117, slCloneP.R⟩])) hd0 Dr.std (some 1) fuel (bodyOf Try.f128) 22 [] args H = some (v, new) := by
  intro args H v new h
  unfold R at h
  split at h
  · rename_i m os ff p t ws mw l
    simp only [Option.some.injEq, Prod.mk.injEq, Bool.and_eq_true, decide_eq_true_eq] at h
    obtain ⟨⟨⟨rfl, rfl, rfl, h3⟩, hs⟩, rfl, rfl⟩ := h
    have hs2 := hs
    obtain ⟨p, t, rfl, rfl, hp, ht, hw, v⟩ := vp.valid hs2
    have ol := vp.own_length t ws os p
    have hsm := bp.own_small v t (os := os) (by omega) p
    have tk : (vp.own.sv t ws os p).take p = vp.own.sv t ws os p := List.take_of_length_le (by omega)
    refine ⟨0, ?_⟩
    have eT : pf.prod.sv (vp.own.sv t ws os p) p = bp.Tp t ws p os := rfl
    rw [go (bs := []) (k := 0)]
    simp -implicitDefEqProofs (disch := omega) only [hs, hsm, tk, eT, take_one, set_one, decide_eq_true, decide_eq_false, IntWalk.i64_in, beqT, beqF, bneT, bneF, nat_succ, ← Int.natCast_mul, ← Int.natCast_add, Int.toNat_natCast, Int.zero_mul, Int.zero_add, Int.add_zero, Nat.zero_add, Nat.add_zero, Nat.zero_mul, List.length_singleton, List.length_append, List.length_nil, List.length_cons, List.take_length, List.drop_zero, List.replicate_zero, List.take_nil, List.nil_append, Nat.reduceBEq, Nat.reduceMul, Nat.reduceLeDiff, eq_self, and_self, true_and, and_true, decide_true, decide_false, Bool.and_self, Bool.or_self, Bool.and_true, Bool.true_and, Bool.and_false, Bool.false_and, Bool.or_true, Bool.true_or, Bool.or_false, Bool.false_or, Bool.not_true, Bool.not_false, cond_true, cond_false]
  · cases h
theorem ok : EntWOk Try.prog ⟨128, R⟩ :=
  entw_ok mixed (A := (orcF [⟨67, layF vOwn.R⟩] (orc [⟨72, productOf.R⟩, ⟨117, slCloneP.R⟩]))) (orcF_ok (by simp only [List.mem_cons, List.not_mem_nil, or_false, forall_eq_or_imp, forall_eq]; exact vOwn.ok.frz) (orc_ok (by simp only [List.mem_cons, List.not_mem_nil, or_false, forall_eq_or_imp, forall_eq]; exact ⟨productOf.ok, slCloneP.ok⟩))) Try.func128 (by kernel_rfl) (by kernel_rfl) (n := 22) (ts := []) (hd := hd0) (dr := Dr.std) (cut := (some 1)) (by kernel_rfl) (by kernel_rfl) (by kernel_rfl) run
end cloNP

namespace cloSP
def R : List AVal → Heap → Option (Bool × AVal × Heap)
  | [.own 0 0 m 0 1, .ptr 1 0 0, .ptr 2 0 0, .ptr 3 0 0, .ptr 5 0 0], [⟨.typ (.ints .i64 os), 0⟩, ⟨.cells [.fn ff []], 0⟩, ⟨.cells [.int .i64 p, .int .i64 t, .ro (.ints .i64 ws) mw 1], 0⟩, ⟨.cells [.own 4 0 k 0 1], 0⟩, ⟨.typ (.ints .i64 bs), 0⟩, ⟨.cells [.int .i64 l], 0⟩] => some (decide (ff = 72 ∧ mw = ws.length ∧ m = os.length ∧ (m : Int) = t ∧ l < (bp.Tp t.toNat ws p.toNat os)) && vp.sp p t ws, .tup [], [⟨.typ (.ints .i64 os), 0⟩, ⟨.cells [.fn 72 []], 0⟩, ⟨.cells [.int .i64 p, .int .i64 t, .ro (.ints .i64 ws) mw 1], 0⟩, ⟨.cells [.own 6 0 m 0 1], 0⟩, ⟨.typ (.ints .i64 bs), 0⟩, ⟨.cells [.int .i64 (bp.Tp t.toNat ws p.toNat os)], 0⟩, ⟨.typ (.ints .i64 os), 0⟩])
  | _, _ => none
theorem go (p t : Int) (ws os bs : List Int) (mw m k : Nat) (l : Int) :
  runFn Try.prog (orcF [⟨67, layF vOwn.R⟩] (orc [⟨72, productOf.R⟩, ⟨117, slCloneP.R⟩])) hd0 Dr.std (some 1) 0 (bodyOf Try.f128) 22 [] [.own 0 0 m 0 1, .ptr 1 0 0, .ptr 2 0 0, .ptr 3 0 0, .ptr 5 0 0] [⟨.typ (.ints .i64 os), 0⟩, ⟨.cells [.fn 72 []], 0⟩, ⟨.cells [.int .i64 p, .int .i64 t, .ro (.ints .i64 ws) mw 1], 0⟩, ⟨.cells [.own 4 0 k 0 1], 0⟩, ⟨.typ (.ints .i64 bs), 0⟩, ⟨.cells [.int .i64 l], 0⟩]
  = (bif true && (true && (true && (true && (true && (true && true))))) then bif true && true && (true && true && (true && true && true)) then bif decide (mw = ws.length ∧ m = os.length ∧ (↑m : Int) = t) && vp.sp p t ws && (true && (true && true)) then bif decide (p.toNat ≤ (vp.own.sv t.toNat ws os p.toNat).length ∧ p.toNat ≤ (1000 : Nat)) && pf.small.sp (vp.own.sv t.toNat ws os p.toNat) && (true && true || true && true) then bif true && true then bif true && true then bif decide (l < pf.prod.sv (vp.own.sv t.toNat ws os p.toNat) p.toNat) then bif decide ((0 : Nat) < m ∧ m ≤ os.length ∧ m ≤ (1048576 : Nat)) && (false && true || true && (true && true)) then some (AVal.tup [], [{ c := BC.typ (Cont.ints IntKind.i64 os), ver := (0 : Nat) }, { c := BC.cells [AVal.fn (72 : Nat) []], ver := (0 : Nat) }, { c := BC.cells [AVal.int IntKind.i64 p, AVal.int IntKind.i64 t, AVal.ro (Cont.ints IntKind.i64 ws) mw (1 : Nat)], ver := (0 : Nat) }, { c := BC.cells [AVal.own ((1 : Nat) + (1 : Nat) + (1 : Nat) + (1 : Nat) + (1 : Nat) + (1 : Nat) + (0 : Nat)) (0 : Nat) m (0 : Nat) (1 : Nat)], ver := (0 : Nat) }, { c := BC.typ (Cont.ints IntKind.i64 bs), ver := (0 : Nat) }, { c := BC.cells [AVal.int IntKind.i64 (pf.prod.sv (vp.own.sv t.toNat ws os p.toNat) p.toNat)], ver := (0 : Nat) }, { c := BC.typ (Cont.ints IntKind.i64 (List.take m os)), ver := (0 : Nat) }]) else none else some (AVal.tup [], [{ c := BC.typ (Cont.ints IntKind.i64 os), ver := (0 : Nat) }, { c := BC.cells [AVal.fn (72 : Nat) []], ver := (0 : Nat) }, { c := BC.cells [AVal.int IntKind.i64 p, AVal.int IntKind.i64 t, AVal.ro (Cont.ints IntKind.i64 ws) mw (1 : Nat)], ver := (0 : Nat) }, { c := BC.cells [AVal.own (4 : Nat) (0 : Nat) k (0 : Nat) (1 : Nat)], ver := (0 : Nat) }, { c := BC.typ (Cont.ints IntKind.i64 bs), ver := (0 : Nat) }, { c := BC.cells [AVal.int IntKind.i64 l], ver := (0 : Nat) }]) else none else none else none else none else none else none) := by kernel_rfl
theorem run : ∀ args H v new, R args H = some (true, v, new) → ∃ fuel, runFn Try.prog (orcF [⟨67, layF vOwn.R⟩] (orc [⟨72, productOf.R⟩, ⟨117, slCloneP.R⟩])) hd0 Dr.std (some 1) fuel (bodyOf Try.f128) 22 [] args H = some (v, new) := by
  intro args H v new h
  unfold R at h
  split at h
  · rename_i m os ff p t ws mw k bs l
    simp only [Option.some.injEq, Prod.mk.injEq, Bool.and_eq_true, decide_eq_true_eq] at h
    obtain ⟨⟨⟨rfl, rfl, rfl, h3, hlt⟩, hs⟩, rfl, rfl⟩ := h
    have hs2 := hs
    obtain ⟨p, t, rfl, rfl, hp, ht, hw, v⟩ := vp.valid hs2
    have ol := vp.own_length t ws os p
    have hsm := bp.own_small v t (os := os) (by omega) p
    have tk : (vp.own.sv t ws os p).take p = vp.own.sv t ws os p := List.take_of_length_le (by omega)
    refine ⟨0, ?_⟩
    have eT : pf.prod.sv (vp.own.sv t ws os p) p = bp.Tp t ws p os := rfl
    rw [Int.toNat_natCast, Int.toNat_natCast] at hlt
    rw [go]
    simp -implicitDefEqProofs (disch := omega) only [hs, hsm, tk, eT, take_one, set_one, decide_eq_true, decide_eq_false, IntWalk.i64_in, beqT, beqF, bneT, bneF, nat_succ, ← Int.natCast_mul, ← Int.natCast_add, Int.toNat_natCast, Int.zero_mul, Int.zero_add, Int.add_zero, Nat.zero_add, Nat.add_zero, Nat.zero_mul, List.length_singleton, List.length_append, List.length_nil, List.length_cons, List.take_length, List.drop_zero, List.replicate_zero, List.take_nil, List.nil_append, Nat.reduceBEq, Nat.reduceMul, Nat.reduceLeDiff, eq_self, and_self, true_and, and_true, decide_true, decide_false, Bool.and_self, Bool.or_self, Bool.and_true, Bool.true_and, Bool.and_false, Bool.false_and, Bool.or_true, Bool.true_or, Bool.or_false, Bool.false_or, Bool.not_true, Bool.not_false, cond_true, cond_false]
  · cases h
theorem ok : EntWOk Try.prog ⟨128, R⟩ :=
  entw_ok mixed (A := (orcF [⟨67, layF vOwn.R⟩] (orc [⟨72, productOf.R⟩, ⟨117, slCloneP.R⟩]))) (orcF_ok (by simp only [List.mem_cons, List.not_mem_nil, or_false, forall_eq_or_imp, forall_eq]; exact vOwn.ok.frz) (orc_ok (by simp only [List.mem_cons, List.not_mem_nil, or_false, forall_eq_or_imp, forall_eq]; exact ⟨productOf.ok, slCloneP.ok⟩))) Try.func128 (by kernel_rfl) (by kernel_rfl) (n := 22) (ts := []) (hd := hd0) (dr := Dr.std) (cut := (some 1)) (by kernel_rfl) (by kernel_rfl) (by kernel_rfl) run
end cloSP

namespace cloKP
def R : List AVal → Heap → Option (Bool × AVal × Heap)
  | [.own 0 0 m 0 1, .ptr 1 0 0, .ptr 2 0 0, .ptr 3 0 0, .ptr 5 0 0], [⟨.typ (.ints .i64 os), 0⟩, ⟨.cells [.fn ff []], 0⟩, ⟨.cells [.int .i64 p, .int .i64 t, .ro (.ints .i64 ws) mw 1], 0⟩, ⟨.cells [.own 4 0 k 0 1], 0⟩, ⟨.typ (.ints .i64 bs), 0⟩, ⟨.cells [.int .i64 l], 0⟩] => some (decide (ff = 72 ∧ mw = ws.length ∧ m = os.length ∧ (m : Int) = t ∧ ¬ (l < (bp.Tp t.toNat ws p.toNat os))) && vp.sp p t ws, .tup [], [⟨.typ (.ints .i64 os), 0⟩, ⟨.cells [.fn 72 []], 0⟩, ⟨.cells [.int .i64 p, .int .i64 t, .ro (.ints .i64 ws) mw 1], 0⟩, ⟨.cells [.own 4 0 k 0 1], 0⟩, ⟨.typ (.ints .i64 bs), 0⟩, ⟨.cells [.int .i64 l], 0⟩])
  | _, _ => none
theorem go (p t : Int) (ws os bs : List Int) (mw m k : Nat) (l : Int) :
  runFn Try.prog (orcF [⟨67, layF vOwn.R⟩] (orc [⟨72, productOf.R⟩])) hd0 Dr.std (some 0) 0 (bodyOf Try.f128) 22 [] [.own 0 0 m 0 1, .ptr 1 0 0, .ptr 2 0 0, .ptr 3 0 0, .ptr 5 0 0] [⟨.typ (.ints .i64 os), 0⟩, ⟨.cells [.fn 72 []], 0⟩, ⟨.cells [.int .i64 p, .int .i64 t, .ro (.ints .i64 ws) mw 1], 0⟩, ⟨.cells [.own 4 0 k 0 1], 0⟩, ⟨.typ (.ints .i64 bs), 0⟩, ⟨.cells [.int .i64 l], 0⟩]
  = (bif true && (true && (true && (true && (true && (true && true))))) then bif true && true && (true && true && (true && true && true)) then bif decide (mw = ws.length ∧ m = os.length ∧ (↑m : Int) = t) && vp.sp p t ws && (true && (true && true)) then bif decide (p.toNat ≤ (vp.own.sv t.toNat ws os p.toNat).length ∧ p.toNat ≤ (1000 : Nat)) && pf.small.sp (vp.own.sv t.toNat ws os p.toNat) && (true && true || true && true) then bif true && true then bif true && true then bif decide (l < pf.prod.sv (vp.own.sv t.toNat ws os p.toNat) p.toNat) then none else some (AVal.tup [], [{ c := BC.typ (Cont.ints IntKind.i64 os), ver := (0 : Nat) }, { c := BC.cells [AVal.fn (72 : Nat) []], ver := (0 : Nat) }, { c := BC.cells [AVal.int IntKind.i64 p, AVal.int IntKind.i64 t, AVal.ro (Cont.ints IntKind.i64 ws) mw (1 : Nat)], ver := (0 : Nat) }, { c := BC.cells [AVal.own (4 : Nat) (0 : Nat) k (0 : Nat) (1 : Nat)], ver := (0 : Nat) }, { c := BC.typ (Cont.ints IntKind.i64 bs), ver := (0 : Nat) }, { c := BC.cells [AVal.int IntKind.i64 l], ver := (0 : Nat) }]) else none else none else none else none else none else none) := by kernel_rfl
theorem run : ∀ args H v new, R args H = some (true, v, new) → ∃ fuel, runFn Try.prog (orcF [⟨67, layF vOwn.R⟩] (orc [⟨72, productOf.R⟩])) hd0 Dr.std (some 0) fuel (bodyOf Try.f128) 22 [] args H = some (v, new) := by
  intro args H v new h
  unfold R at h
  split at h
  · rename_i m os ff p t ws mw k bs l
    simp only [Option.some.injEq, Prod.mk.injEq, Bool.and_eq_true, decide_eq_true_eq] at h
    obtain ⟨⟨⟨rfl, rfl, rfl, h3, hlt⟩, hs⟩, rfl, rfl⟩ := h
    have hs2 := hs
    obtain ⟨p, t, rfl, rfl, hp, ht, hw, v⟩ := vp.valid hs2
    have ol := vp.own_length t ws os p
    have hsm := bp.own_small v t (os := os) (by omega) p
    have tk : (vp.own.sv t ws os p).take p = vp.own.sv t ws os p := List.take_of_length_le (by omega)
    refine ⟨0, ?_⟩
    have eT : pf.prod.sv (vp.own.sv t ws os p) p = bp.Tp t ws p os := rfl
    rw [Int.toNat_natCast, Int.toNat_natCast] at hlt
    rw [go]
    simp -implicitDefEqProofs (disch := omega) only [hs, hsm, tk, eT, take_one, set_one, decide_eq_true, decide_eq_false, IntWalk.i64_in, beqT, beqF, bneT, bneF, nat_succ, ← Int.natCast_mul, ← Int.natCast_add, Int.toNat_natCast, Int.zero_mul, Int.zero_add, Int.add_zero, Nat.zero_add, Nat.add_zero, Nat.zero_mul, List.length_singleton, List.length_append, List.length_nil, List.length_cons, List.take_length, List.drop_zero, List.replicate_zero, List.take_nil, List.nil_append, Nat.reduceBEq, Nat.reduceMul, Nat.reduceLeDiff, eq_self, and_self, true_and, and_true, decide_true, decide_false, Bool.and_self, Bool.or_self, Bool.and_true, Bool.true_and, Bool.and_false, Bool.false_and, Bool.or_true, Bool.true_or, Bool.or_false, Bool.false_or, Bool.not_true, Bool.not_false, cond_true, cond_false]
  · cases h
theorem ok : EntWOk Try.prog ⟨128, R⟩ :=
  entw_ok mixed (A := (orcF [⟨67, layF vOwn.R⟩] (orc [⟨72, productOf.R⟩]))) (orcF_ok (by simp only [List.mem_cons, List.not_mem_nil, or_false, forall_eq_or_imp, forall_eq]; exact vOwn.ok.frz) (orc_ok (by simp only [List.mem_cons, List.not_mem_nil, or_false, forall_eq_or_imp, forall_eq]; exact productOf.ok))) Try.func128 (by kernel_rfl) (by kernel_rfl) (n := 22) (ts := []) (hd := hd0) (dr := Dr.std) (cut := (some 0)) (by kernel_rfl) (by kernel_rfl) (by kernel_rfl) run
end cloKP

namespace cloBP
def R : List AVal → Heap → Option (Bool × AVal × Heap)
  | [.own 0 0 m 0 1, .ptr 1 0 0, .ptr 2 0 0, .ptr 3 0 0, .ptr 5 0 0], [⟨.typ (.ints .i64 os), 0⟩, ⟨.cells [.fn ff []], 0⟩, ⟨.cells [.int .i64 p, .int .i64 t, .ro (.ints .i64 ws) mw 1], 0⟩, ⟨.cells [.own 4 0 k 0 1], 0⟩, ⟨.typ (.ints .i64 bs), 0⟩, ⟨.cells [.int .i64 l], 0⟩] => some (decide (ff = 72 ∧ mw = ws.length ∧ m = os.length ∧ (m : Int) = t ∧ k = bs.length ∧ k = m) && vp.sp p t ws, .tup [], [⟨.typ (.ints .i64 os), 0⟩, ⟨.cells [.fn 72 []], 0⟩, ⟨.cells [.int .i64 p, .int .i64 t, .ro (.ints .i64 ws) mw 1], 0⟩, ⟨.cells [.own 4 0 m 1 1], 0⟩, ⟨.typ (.ints .i64 (bp.up (bp.Tp t.toNat ws p.toNat) os bs l).1), 1⟩, ⟨.cells [.int .i64 (bp.up (bp.Tp t.toNat ws p.toNat) os bs l).2], 0⟩])
  | _, _ => none
def Rs := reWR [0, 1, 2, 3, 6, 5] (fun l ver => bif eqN l 6 then 1 else ver) cloSP.R
def Rk := reWR [0, 1, 2, 3, 4, 5] (fun l ver => bif eqN l 4 then 1 else ver) cloKP.R
theorem ok : EntWOk Try.prog ⟨128, R⟩ := by
  refine EntWOk.cases (R1 := Rs) (R2 := Rk) (cloSP.ok.reW _ _) (cloKP.ok.reW _ _) fun args H v H' h => ?_
  unfold R at h
  split at h
  · rename_i m os ff p t ws mw k bs l
    simp only [Option.some.injEq, Prod.mk.injEq, Bool.and_eq_true, decide_eq_true_eq] at h
    obtain ⟨⟨⟨rfl, rfl, rfl, h3, rfl, h9⟩, hv⟩, rfl, rfl⟩ := h
    by_cases hlt : l < (bp.Tp t.toNat ws p.toNat os)
    · left
      have hs : cloSP.R [.own 0 0 os.length 0 1, .ptr 1 0 0, .ptr 2 0 0, .ptr 3 0 0, .ptr 5 0 0] [⟨.typ (.ints .i64 os), 0⟩, ⟨.cells [.fn 72 []], 0⟩, ⟨.cells [.int .i64 p, .int .i64 t, .ro (.ints .i64 ws) ws.length 1], 0⟩, ⟨.cells [.own 4 0 bs.length 0 1], 0⟩, ⟨.typ (.ints .i64 bs), 0⟩, ⟨.cells [.int .i64 l], 0⟩] = some (true, .tup [], [⟨.typ (.ints .i64 os), 0⟩, ⟨.cells [.fn 72 []], 0⟩, ⟨.cells [.int .i64 p, .int .i64 t, .ro (.ints .i64 ws) ws.length 1], 0⟩, ⟨.cells [.own 6 0 os.length 0 1], 0⟩, ⟨.typ (.ints .i64 bs), 0⟩, ⟨.cells [.int .i64 (bp.Tp t.toNat ws p.toNat os)], 0⟩, ⟨.typ (.ints .i64 os), 0⟩]) := by
        simp only [cloSP.R, h3, hlt, hv, and_self, decide_true, Bool.and_self]
      unfold Rs reWR
      rw [hs]
      have e : bp.up (bp.Tp t.toNat ws p.toNat) os bs l = (os, (bp.Tp t.toNat ws p.toNat os)) := by simp only [bp.up, hlt, decide_true, cond_true]
      rw [e]
      try rw [h9]
      rfl
    · right
      have hs : cloKP.R [.own 0 0 os.length 0 1, .ptr 1 0 0, .ptr 2 0 0, .ptr 3 0 0, .ptr 5 0 0] [⟨.typ (.ints .i64 os), 0⟩, ⟨.cells [.fn 72 []], 0⟩, ⟨.cells [.int .i64 p, .int .i64 t, .ro (.ints .i64 ws) ws.length 1], 0⟩, ⟨.cells [.own 4 0 bs.length 0 1], 0⟩, ⟨.typ (.ints .i64 bs), 0⟩, ⟨.cells [.int .i64 l], 0⟩] = some (true, .tup [], [⟨.typ (.ints .i64 os), 0⟩, ⟨.cells [.fn 72 []], 0⟩, ⟨.cells [.int .i64 p, .int .i64 t, .ro (.ints .i64 ws) ws.length 1], 0⟩, ⟨.cells [.own 4 0 bs.length 0 1], 0⟩, ⟨.typ (.ints .i64 bs), 0⟩, ⟨.cells [.int .i64 l], 0⟩]) := by
        simp only [cloKP.R, h3, hlt, hv, not_false_eq_true, and_self, decide_true, Bool.and_self]
      unfold Rk reWR
      rw [hs]
      have e : bp.up (bp.Tp t.toNat ws p.toNat) os bs l = (bs, l) := by simp only [bp.up, hlt, decide_false, cond_false]
      rw [e, h9]
      rfl
  · cases h
end cloBP
namespace cloP
def R := orW cloNP.R cloBP.R
theorem ok : EntWOk Try.prog ⟨128, R⟩ := cloNP.ok.orW cloBP.ok
end cloP

end Go.Proofs.Ytkoongajnnaeoaa.Ab
