/-
  Functions: the reference on trees, ways that are drawn.
-/
import Derived.Test.YtadcpdjcadnepaaFnVW
namespace Go.Proofs.Ytadcpdjcadnepaa.Ab
open Go
set_option linter.unusedVariables false
set_option linter.unusedSimpArgs false
set_option maxRecDepth 100000

namespace sTreeWorths
def R : List AVal → Option (Bool × AVal × List Blk)
  | [.int .i64 p, .ro (.ints .i64 cs) m 1] => some (decide (m = cs.length) && tr.ways.sp p cs, .tup [.agg [.int .i64 p, .own 0 0 (2 ^ p.toNat) 0 1], .bool true], [⟨.typ (.ints .i64 (fs.ls.sv (tr.w.sv cs p.toNat) (2 ^ p.toNat))), 0⟩])
  | _ => none
def hd : Nat → Head := fun i => bif eqN i 0 then ⟨[0, 1, 4, 6, 7, 998], none⟩ else ⟨[0, 1, 4, 6, 7, 8, 9, 30, 31, 998], none⟩
noncomputable def L0 (f n : Nat) (s : State) := loopAt Try.prog (orcW [⟨80, l03Give.R⟩] [⟨110, l03Costs.R⟩, ⟨111, l03Tree.R⟩]) hd Dr.std 0 f (bodyOf Try.f52) 0 [true, true, true, false, true] (retK Try.prog [.cell 4 41, 5] 0 none) n s
noncomputable def L2 (f n n2 : Nat) (s : State) := loopAt Try.prog (orcW [⟨80, l03Give.R⟩] [⟨110, l03Costs.R⟩, ⟨111, l03Tree.R⟩]) hd Dr.std 0 f (bodyAt (bodyOf Try.f52) [true, true, true, false, true]) (curAt (bodyOf Try.f52) 0 [true, true, true, false, true]) [true, false, true, true, false, true] (iterK (normE 0 (hd (curAt (bodyOf Try.f52) 0 [true, true, true, false, true]))) (L0 f n) (contAt Try.prog (orcW [⟨80, l03Give.R⟩] [⟨110, l03Costs.R⟩, ⟨111, l03Tree.R⟩]) hd Dr.std 0 f (bodyOf Try.f52) 0 [true, true, true, false, true] (retK Try.prog [.cell 4 41, 5] 0 none))) n2 s
theorem start (p : Int) (cs : List Int) (f : Nat) :
  runFn Try.prog (orcW [⟨80, l03Give.R⟩] [⟨110, l03Costs.R⟩, ⟨111, l03Tree.R⟩]) hd Dr.std none f (bodyOf Try.f52) 51 [.cell 4 41, 5] [.int .i64 p, .ro (.ints .i64 cs) cs.length 1] []
  = (bif decide (cs.length = cs.length) && tr.ways.sp p cs && (true && (true && true) || true && true) then L0 f f (mkS (51 : Nat) [((0 : Nat), AVal.int IntKind.i64 p), ((1 : Nat), AVal.ro (Cont.ints IntKind.i64 cs) cs.length (1 : Nat)), ((4 : Nat), AVal.ptr (0 : Nat) (0 : Nat) (0 : Nat)), ((6 : Nat), AVal.ptr (1 : Nat) (0 : Nat) (0 : Nat)), ((7 : Nat), AVal.int IntKind.i64 (0 : Int))] [{ c := BC.cells [AVal.int IntKind.i64 (0 : Int), AVal.nils], ver := (0 : Nat) }, { c := BC.cells [AVal.int IntKind.i64 p, AVal.nils], ver := (0 : Nat) }]) else none) := by kernel_rfl
theorem round0a (p k : Int) (cs : List Int) (f n : Nat) :
  L0 f (n + 1) (mkS 51 [(0, .int .i64 p), (1, .ro (.ints .i64 cs) cs.length 1), (4, .ptr 0 0 0), (6, .ptr 1 0 0), (7, .int .i64 k)] [⟨.cells [.int .i64 0, .nils], 0⟩, ⟨.cells [.int .i64 p, .nils], 0⟩])
  = (bif decide ((0 : Int) ≤ IntKind.u64.wrap p) then bif decide (k < ishl.sv IntKind.i64 (1 : Int) (IntKind.u64.wrap p)) then bif decide (cs.length = cs.length ∧ (0 : Int) ≤ k ∧ k.toNat < (2 : Nat) ^ p.toNat) && tr.ways.sp p cs && (true && (true && (true && true)) || true && (true && true)) then L2 f n f (mkS (51 : Nat) [((0 : Nat), AVal.int IntKind.i64 p), ((1 : Nat), AVal.ro (Cont.ints IntKind.i64 cs) cs.length (1 : Nat)), ((4 : Nat), AVal.ptr (0 : Nat) (0 : Nat) (0 : Nat)), ((6 : Nat), AVal.ptr (1 : Nat) (0 : Nat) (0 : Nat)), ((7 : Nat), AVal.int IntKind.i64 k), ((8 : Nat), AVal.own (2 : Nat) (0 : Nat) p.toNat (0 : Nat) (1 : Nat)), ((9 : Nat), AVal.int IntKind.i64 (0 : Int)), ((30 : Nat), AVal.int IntKind.i64 (↑p.toNat : Int)), ((31 : Nat), AVal.int IntKind.i64 (0 : Int))] [{ c := BC.cells [AVal.int IntKind.i64 (0 : Int), AVal.nils], ver := (0 : Nat) }, { c := BC.cells [AVal.int IntKind.i64 p, AVal.nils], ver := (0 : Nat) }, { c := BC.typ (Cont.ints IntKind.i64 (List.drop (1 : Nat) (tr.pays.sv cs p.toNat k.toNat))), ver := (0 : Nat) }]) else none else bif true && true && (true && true && true) then none else none else none) := by kernel_rfl
theorem round0b (p k : Int) (cs os : List Int) (q f n : Nat) :
  L0 f (n + 1) (mkS 51 [(0, .int .i64 p), (1, .ro (.ints .i64 cs) cs.length 1), (4, .ptr 0 0 0), (6, .ptr 1 0 0), (7, .int .i64 k)] [⟨.cells [.int .i64 0, .nils], 0⟩, ⟨.cells [.int .i64 p, .own 2 0 q 0 1], 0⟩, ⟨.typ (.ints .i64 os), 0⟩])
  = (bif decide ((0 : Int) ≤ IntKind.u64.wrap p) then bif decide (k < ishl.sv IntKind.i64 (1 : Int) (IntKind.u64.wrap p)) then bif decide (cs.length = cs.length ∧ (0 : Int) ≤ k ∧ k.toNat < (2 : Nat) ^ p.toNat) && tr.ways.sp p cs && (true && (true && (true && true)) || true && (true && true)) then L2 f n f (mkS (51 : Nat) [((0 : Nat), AVal.int IntKind.i64 p), ((1 : Nat), AVal.ro (Cont.ints IntKind.i64 cs) cs.length (1 : Nat)), ((4 : Nat), AVal.ptr (0 : Nat) (0 : Nat) (0 : Nat)), ((6 : Nat), AVal.ptr (1 : Nat) (0 : Nat) (0 : Nat)), ((7 : Nat), AVal.int IntKind.i64 k), ((8 : Nat), AVal.own (3 : Nat) (0 : Nat) p.toNat (0 : Nat) (1 : Nat)), ((9 : Nat), AVal.int IntKind.i64 (0 : Int)), ((30 : Nat), AVal.int IntKind.i64 (↑p.toNat : Int)), ((31 : Nat), AVal.int IntKind.i64 (0 : Int))] [{ c := BC.cells [AVal.int IntKind.i64 (0 : Int), AVal.nils], ver := (0 : Nat) }, { c := BC.cells [AVal.int IntKind.i64 p, AVal.own (2 : Nat) (0 : Nat) q (0 : Nat) (1 : Nat)], ver := (0 : Nat) }, { c := BC.typ (Cont.ints IntKind.i64 os), ver := (0 : Nat) }, { c := BC.typ (Cont.ints IntKind.i64 (List.drop (1 : Nat) (tr.pays.sv cs p.toNat k.toNat))), ver := (0 : Nat) }]) else none else bif true && true && (true && true && true) then bif decide (q = os.length) && wo.sp p os && (true && (true && true)) then bif true && true && (true && true && true) && true then some (AVal.tup [AVal.agg [AVal.int IntKind.i64 p, AVal.own (2 : Nat) (0 : Nat) q (0 : Nat) (1 : Nat)], AVal.bool true], [{ c := BC.cells [AVal.int IntKind.i64 p, AVal.own (2 : Nat) (0 : Nat) q (0 : Nat) (1 : Nat)], ver := (0 : Nat) }, { c := BC.cells [AVal.int IntKind.i64 p, AVal.own (2 : Nat) (0 : Nat) q (0 : Nat) (1 : Nat)], ver := (0 : Nat) }, { c := BC.typ (Cont.ints IntKind.i64 os), ver := (0 : Nat) }]) else none else none else none else none) := by kernel_rfl
theorem round2a (p k : Int) (cs : List Int) (f n : Nat) (sm l i : Int) (ps : List Int) (r n2 : Nat) :
  L2 f n (n2 + 1) (mkS 51 [(0, .int .i64 p), (1, .ro (.ints .i64 cs) cs.length 1), (4, .ptr 0 0 0), (6, .ptr 1 0 0), (7, .int .i64 k), (8, .own 2 0 r 0 1), (9, .int .i64 sm), (30, .int .i64 l), (31, .int .i64 i)] [⟨.cells [.int .i64 0, .nils], 0⟩, ⟨.cells [.int .i64 p, .nils], 0⟩, ⟨.typ (.ints .i64 ps), 0⟩])
  = (bif decide (i < l) then bif true && (decide ((0 : Int) ≤ i) && decide (i < (↑r : Int))) then bif true && decide (i.toNat < ps.length) then L2 f n n2 (mkS (51 : Nat) [((0 : Nat), AVal.int IntKind.i64 p), ((1 : Nat), AVal.ro (Cont.ints IntKind.i64 cs) cs.length (1 : Nat)), ((4 : Nat), AVal.ptr (0 : Nat) (0 : Nat) (0 : Nat)), ((6 : Nat), AVal.ptr (1 : Nat) (0 : Nat) (0 : Nat)), ((7 : Nat), AVal.int IntKind.i64 k), ((8 : Nat), AVal.own (2 : Nat) (0 : Nat) r (0 : Nat) (1 : Nat)), ((9 : Nat), AVal.int IntKind.i64 (IntKind.i64.wrap (sm + gz ps i.toNat))), ((30 : Nat), AVal.int IntKind.i64 l), ((31 : Nat), AVal.int IntKind.i64 (IntKind.i64.wrap (i + (1 : Int))))] [{ c := BC.cells [AVal.int IntKind.i64 (0 : Int), AVal.nils], ver := (0 : Nat) }, { c := BC.cells [AVal.int IntKind.i64 p, AVal.nils], ver := (0 : Nat) }, { c := BC.typ (Cont.ints IntKind.i64 ps), ver := (0 : Nat) }]) else none else none else bif true && true then bif (1 : Nat) == (1 : Nat) && (1 : Nat) == (1 : Nat) && (true && true && (decide ((0 : Nat) < (List.take (1 : Nat) (List.drop (0 : Nat) ((List.replicate (1 : Nat) (0 : Int)).set (0 : Nat) sm))).length) && (decide ((List.take (1 : Nat) (List.drop (0 : Nat) ((List.replicate (1 : Nat) (0 : Int)).set (0 : Nat) sm))).length ≤ (4611686018427387904 : Nat)) && decide ((List.take (1 : Nat) (List.drop (0 : Nat) ((List.replicate (1 : Nat) (0 : Int)).set (0 : Nat) sm))).length * (8 : Nat) ≤ (140737488355328 : Nat))))) then L0 f n (mkS (51 : Nat) [((0 : Nat), AVal.int IntKind.i64 p), ((1 : Nat), AVal.ro (Cont.ints IntKind.i64 cs) cs.length (1 : Nat)), ((4 : Nat), AVal.ptr (0 : Nat) (0 : Nat) (0 : Nat)), ((6 : Nat), AVal.ptr (1 : Nat) (0 : Nat) (0 : Nat)), ((7 : Nat), AVal.int IntKind.i64 (IntKind.i64.wrap (k + (1 : Int))))] [{ c := BC.cells [AVal.int IntKind.i64 (0 : Int), AVal.nils], ver := (0 : Nat) }, { c := BC.cells [AVal.int IntKind.i64 p, AVal.own (2 : Nat) (0 : Nat) (List.take (1 : Nat) (List.drop (0 : Nat) ((List.replicate (1 : Nat) (0 : Int)).set (0 : Nat) sm))).length (0 : Nat) (1 : Nat)], ver := (0 : Nat) }, { c := BC.typ (Cont.ints IntKind.i64 (List.take (1 : Nat) (List.drop (0 : Nat) ((List.replicate (1 : Nat) (0 : Int)).set (0 : Nat) sm)))), ver := (0 : Nat) }]) else none else none) := by kernel_rfl
theorem round2b (p k : Int) (cs os : List Int) (q f n : Nat) (sm l i : Int) (ps : List Int) (r n2 : Nat) :
  L2 f n (n2 + 1) (mkS 51 [(0, .int .i64 p), (1, .ro (.ints .i64 cs) cs.length 1), (4, .ptr 0 0 0), (6, .ptr 1 0 0), (7, .int .i64 k), (8, .own 3 0 r 0 1), (9, .int .i64 sm), (30, .int .i64 l), (31, .int .i64 i)] [⟨.cells [.int .i64 0, .nils], 0⟩, ⟨.cells [.int .i64 p, .own 2 0 q 0 1], 0⟩, ⟨.typ (.ints .i64 os), 0⟩, ⟨.typ (.ints .i64 ps), 0⟩])
  = (bif decide (i < l) then bif true && (decide ((0 : Int) ≤ i) && decide (i < (↑r : Int))) then bif true && decide (i.toNat < ps.length) then L2 f n n2 (mkS (51 : Nat) [((0 : Nat), AVal.int IntKind.i64 p), ((1 : Nat), AVal.ro (Cont.ints IntKind.i64 cs) cs.length (1 : Nat)), ((4 : Nat), AVal.ptr (0 : Nat) (0 : Nat) (0 : Nat)), ((6 : Nat), AVal.ptr (1 : Nat) (0 : Nat) (0 : Nat)), ((7 : Nat), AVal.int IntKind.i64 k), ((8 : Nat), AVal.own (3 : Nat) (0 : Nat) r (0 : Nat) (1 : Nat)), ((9 : Nat), AVal.int IntKind.i64 (IntKind.i64.wrap (sm + gz ps i.toNat))), ((30 : Nat), AVal.int IntKind.i64 l), ((31 : Nat), AVal.int IntKind.i64 (IntKind.i64.wrap (i + (1 : Int))))] [{ c := BC.cells [AVal.int IntKind.i64 (0 : Int), AVal.nils], ver := (0 : Nat) }, { c := BC.cells [AVal.int IntKind.i64 p, AVal.own (2 : Nat) (0 : Nat) q (0 : Nat) (1 : Nat)], ver := (0 : Nat) }, { c := BC.typ (Cont.ints IntKind.i64 os), ver := (0 : Nat) }, { c := BC.typ (Cont.ints IntKind.i64 ps), ver := (0 : Nat) }]) else none else none else bif true && true then bif (1 : Nat) == (1 : Nat) && (1 : Nat) == (1 : Nat) && (true && (true && true) && (true && true && (decide (q + (List.take (1 : Nat) (List.drop (0 : Nat) ((List.replicate (1 : Nat) (0 : Int)).set (0 : Nat) sm))).length ≤ (4611686018427387904 : Nat)) && decide ((q + (List.take (1 : Nat) (List.drop (0 : Nat) ((List.replicate (1 : Nat) (0 : Int)).set (0 : Nat) sm))).length) * (8 : Nat) ≤ (140737488355328 : Nat))))) then L0 f n (mkS (51 : Nat) [((0 : Nat), AVal.int IntKind.i64 p), ((1 : Nat), AVal.ro (Cont.ints IntKind.i64 cs) cs.length (1 : Nat)), ((4 : Nat), AVal.ptr (0 : Nat) (0 : Nat) (0 : Nat)), ((6 : Nat), AVal.ptr (1 : Nat) (0 : Nat) (0 : Nat)), ((7 : Nat), AVal.int IntKind.i64 (IntKind.i64.wrap (k + (1 : Int))))] [{ c := BC.cells [AVal.int IntKind.i64 (0 : Int), AVal.nils], ver := (0 : Nat) }, { c := BC.cells [AVal.int IntKind.i64 p, AVal.own (2 : Nat) (0 : Nat) (q + (List.take (1 : Nat) (List.drop (0 : Nat) ((List.replicate (1 : Nat) (0 : Int)).set (0 : Nat) sm))).length) (0 : Nat) (1 : Nat)], ver := (0 : Nat) }, { c := BC.typ (Cont.ints IntKind.i64 (List.take q os ++ List.take (1 : Nat) (List.drop (0 : Nat) ((List.replicate (1 : Nat) (0 : Int)).set (0 : Nat) sm)))), ver := (0 : Nat) }]) else none else none) := by kernel_rfl
theorem loop2a (p k : Nat) (cs ps : List Int) (f n : Nat) (hp : p ≤ 5) (hk : k < 100) (hl : ps.length ≤ 10) (hx : ∀ x ∈ ps, 0 ≤ x ∧ x ≤ 1000) : ∀ (d i n2 : Nat), i + d = ps.length → d < n2 →
    L2 f n n2 (mkS 51 [(0, .int .i64 ((p : Nat) : Int)), (1, .ro (.ints .i64 cs) cs.length 1), (4, .ptr 0 0 0), (6, .ptr 1 0 0), (7, .int .i64 ((k : Nat) : Int)), (8, .own 2 0 ps.length 0 1), (9, .int .i64 (wo.ss.sv ps i)), (30, .int .i64 ((ps.length : Nat) : Int)), (31, .int .i64 ((i : Nat) : Int))] [⟨.cells [.int .i64 0, .nils], 0⟩, ⟨.cells [.int .i64 ((p : Nat) : Int), .nils], 0⟩, ⟨.typ (.ints .i64 ps), 0⟩]) = L0 f n (mkS 51 [(0, .int .i64 ((p : Nat) : Int)), (1, .ro (.ints .i64 cs) cs.length 1), (4, .ptr 0 0 0), (6, .ptr 1 0 0), (7, .int .i64 ((k + 1 : Nat) : Int))] [⟨.cells [.int .i64 0, .nils], 0⟩, ⟨.cells [.int .i64 ((p : Nat) : Int), .own 2 0 ([wo.ss.sv ps ps.length]).length 0 1], 0⟩, ⟨.typ (.ints .i64 ([wo.ss.sv ps ps.length])), 0⟩]) := by
  intro d
  induction d with
  | zero =>
    intro i n2 hk hn
    obtain ⟨n2, rfl⟩ : ∃ k, n2 = k + 1 := ⟨n2 - 1, by omega⟩
    obtain rfl : i = ps.length := by omega
    rw [round2a]
    simp -implicitDefEqProofs (disch := omega) only [take_one, set_one, decide_eq_true, decide_eq_false, IntWalk.i64_in, beqT, beqF, bneT, bneF, nat_succ, ← Int.natCast_mul, ← Int.natCast_add, Int.toNat_natCast, Int.zero_mul, Int.zero_add, Int.add_zero, Nat.zero_add, Nat.add_zero, Nat.zero_mul, List.length_singleton, List.length_append, List.length_nil, List.length_cons, List.take_length, List.drop_zero, List.replicate_zero, List.take_nil, List.nil_append, Nat.reduceBEq, Nat.reduceMul, Nat.reduceLeDiff, eq_self, and_self, true_and, and_true, decide_true, decide_false, Bool.and_self, Bool.or_self, Bool.and_true, Bool.true_and, Bool.and_false, Bool.false_and, Bool.or_true, Bool.true_or, Bool.or_false, Bool.false_or, Bool.not_true, Bool.not_false, cond_true, cond_false]
  | succ d ih =>
    intro i n2 hk hn
    obtain ⟨n2, rfl⟩ : ∃ k, n2 = k + 1 := ⟨n2 - 1, by omega⟩
    have g := ih (i + 1) n2 (by omega) (by omega)
    have b := wo.ss_in (fun x hm => by have := hx x hm; omega : ∀ x ∈ ps, -1000000000000000 ≤ x ∧ x ≤ 1000000000000000) (i + 1)
    simp only [wo.ss.sv] at b g
    rw [round2a]
    simp -implicitDefEqProofs (disch := omega) only [take_one, set_one, decide_eq_true, decide_eq_false, IntWalk.i64_in, beqT, beqF, bneT, bneF, nat_succ, ← Int.natCast_mul, ← Int.natCast_add, Int.toNat_natCast, Int.zero_mul, Int.zero_add, Int.add_zero, Nat.zero_add, Nat.add_zero, Nat.zero_mul, List.length_singleton, List.length_append, List.length_nil, List.length_cons, List.take_length, List.drop_zero, List.replicate_zero, List.take_nil, List.nil_append, Nat.reduceBEq, Nat.reduceMul, Nat.reduceLeDiff, eq_self, and_self, true_and, and_true, decide_true, decide_false, Bool.and_self, Bool.or_self, Bool.and_true, Bool.true_and, Bool.and_false, Bool.false_and, Bool.or_true, Bool.true_or, Bool.or_false, Bool.false_or, Bool.not_true, Bool.not_false, cond_true, cond_false]
    exact g
theorem loop2b (p k : Nat) (cs os ps : List Int) (f n : Nat) (hp : p ≤ 5) (hk : k < 100) (hl : ps.length ≤ 10) (hx : ∀ x ∈ ps, 0 ≤ x ∧ x ≤ 1000) (ho : os.length < 100) : ∀ (d i n2 : Nat), i + d = ps.length → d < n2 →
    L2 f n n2 (mkS 51 [(0, .int .i64 ((p : Nat) : Int)), (1, .ro (.ints .i64 cs) cs.length 1), (4, .ptr 0 0 0), (6, .ptr 1 0 0), (7, .int .i64 ((k : Nat) : Int)), (8, .own 3 0 ps.length 0 1), (9, .int .i64 (wo.ss.sv ps i)), (30, .int .i64 ((ps.length : Nat) : Int)), (31, .int .i64 ((i : Nat) : Int))] [⟨.cells [.int .i64 0, .nils], 0⟩, ⟨.cells [.int .i64 ((p : Nat) : Int), .own 2 0 os.length 0 1], 0⟩, ⟨.typ (.ints .i64 os), 0⟩, ⟨.typ (.ints .i64 ps), 0⟩]) = L0 f n (mkS 51 [(0, .int .i64 ((p : Nat) : Int)), (1, .ro (.ints .i64 cs) cs.length 1), (4, .ptr 0 0 0), (6, .ptr 1 0 0), (7, .int .i64 ((k + 1 : Nat) : Int))] [⟨.cells [.int .i64 0, .nils], 0⟩, ⟨.cells [.int .i64 ((p : Nat) : Int), .own 2 0 (os.length + 1) 0 1], 0⟩, ⟨.typ (.ints .i64 (os ++ [wo.ss.sv ps ps.length])), 0⟩]) := by
  intro d
  induction d with
  | zero =>
    intro i n2 hk hn
    obtain ⟨n2, rfl⟩ : ∃ k, n2 = k + 1 := ⟨n2 - 1, by omega⟩
    obtain rfl : i = ps.length := by omega
    have ht : os.take os.length = os := List.take_of_length_le (Nat.le_refl _)
    rw [round2b]
    simp -implicitDefEqProofs (disch := omega) only [ht, take_one, set_one, decide_eq_true, decide_eq_false, IntWalk.i64_in, beqT, beqF, bneT, bneF, nat_succ, ← Int.natCast_mul, ← Int.natCast_add, Int.toNat_natCast, Int.zero_mul, Int.zero_add, Int.add_zero, Nat.zero_add, Nat.add_zero, Nat.zero_mul, List.length_singleton, List.length_append, List.length_nil, List.length_cons, List.take_length, List.drop_zero, List.replicate_zero, List.take_nil, List.nil_append, Nat.reduceBEq, Nat.reduceMul, Nat.reduceLeDiff, eq_self, and_self, true_and, and_true, decide_true, decide_false, Bool.and_self, Bool.or_self, Bool.and_true, Bool.true_and, Bool.and_false, Bool.false_and, Bool.or_true, Bool.true_or, Bool.or_false, Bool.false_or, Bool.not_true, Bool.not_false, cond_true, cond_false]
  | succ d ih =>
    intro i n2 hk hn
    obtain ⟨n2, rfl⟩ : ∃ k, n2 = k + 1 := ⟨n2 - 1, by omega⟩
    have g := ih (i + 1) n2 (by omega) (by omega)
    have b := wo.ss_in (fun x hm => by have := hx x hm; omega : ∀ x ∈ ps, -1000000000000000 ≤ x ∧ x ≤ 1000000000000000) (i + 1)
    simp only [wo.ss.sv] at b g
    rw [round2b]
    simp -implicitDefEqProofs (disch := omega) only [take_one, set_one, decide_eq_true, decide_eq_false, IntWalk.i64_in, beqT, beqF, bneT, bneF, nat_succ, ← Int.natCast_mul, ← Int.natCast_add, Int.toNat_natCast, Int.zero_mul, Int.zero_add, Int.add_zero, Nat.zero_add, Nat.add_zero, Nat.zero_mul, List.length_singleton, List.length_append, List.length_nil, List.length_cons, List.take_length, List.drop_zero, List.replicate_zero, List.take_nil, List.nil_append, Nat.reduceBEq, Nat.reduceMul, Nat.reduceLeDiff, eq_self, and_self, true_and, and_true, decide_true, decide_false, Bool.and_self, Bool.or_self, Bool.and_true, Bool.true_and, Bool.and_false, Bool.false_and, Bool.or_true, Bool.true_or, Bool.or_false, Bool.false_or, Bool.not_true, Bool.not_false, cond_true, cond_false]
    exact g
theorem loop0 (p : Nat) (cs : List Int) (f : Nat) (W : tr.Ways p cs) (hs : tr.ways.sp (p : Int) cs = true) (hsp : wo.sp (p : Int) (fs.ls.sv (tr.w.sv cs p) (2 ^ p)) = true) (hf : 10 < f) : ∀ (d k n : Nat), k + d = 2 ^ p → d < n →
    regc [2] (L0 f n (mkS 51 [(0, .int .i64 ((p : Nat) : Int)), (1, .ro (.ints .i64 cs) cs.length 1), (4, .ptr 0 0 0), (6, .ptr 1 0 0), (7, .int .i64 ((k : Nat) : Int))] [⟨.cells [.int .i64 0, .nils], 0⟩, ⟨.cells [.int .i64 ((p : Nat) : Int), .own 2 0 (fs.ls.sv (tr.w.sv cs p) k).length 0 1], 0⟩, ⟨.typ (.ints .i64 (fs.ls.sv (tr.w.sv cs p) k)), 0⟩])) = some (.tup [.agg [.int .i64 ((p : Nat) : Int), .own 0 0 (2 ^ p) 0 1], .bool true], [⟨.typ (.ints .i64 (fs.ls.sv (tr.w.sv cs p) (2 ^ p))), 0⟩]) := by
  have w1 := W.p1
  have w5 := W.p5
  have h32 : 2 ^ p ≤ 32 := Nat.pow_le_pow_right (by decide) w5
  have hpp := wo.pow_pos p
  have s1 := wo.shl_one p (by omega)
  have u1 := wo.u64_nat p (by omega)
  intro d
  induction d with
  | zero =>
    intro k n hk hn
    obtain ⟨n, rfl⟩ : ∃ k, n = k + 1 := ⟨n - 1, by omega⟩
    obtain rfl : k = 2 ^ p := by omega
    have hl := fs.ls_length (tr.w.sv cs p) (2 ^ p)
    rw [round0b]
    simp -implicitDefEqProofs (disch := omega) only [s1, u1, hl, hsp, take_one, set_one, decide_eq_true, decide_eq_false, IntWalk.i64_in, beqT, beqF, bneT, bneF, nat_succ, ← Int.natCast_mul, ← Int.natCast_add, Int.toNat_natCast, Int.zero_mul, Int.zero_add, Int.add_zero, Nat.zero_add, Nat.add_zero, Nat.zero_mul, List.length_singleton, List.length_append, List.length_nil, List.length_cons, List.take_length, List.drop_zero, List.replicate_zero, List.take_nil, List.nil_append, Nat.reduceBEq, Nat.reduceMul, Nat.reduceLeDiff, eq_self, and_self, true_and, and_true, decide_true, decide_false, Bool.and_self, Bool.or_self, Bool.and_true, Bool.true_and, Bool.and_false, Bool.false_and, Bool.or_true, Bool.true_or, Bool.or_false, Bool.false_or, Bool.not_true, Bool.not_false, cond_true, cond_false]
    rfl
  | succ d ih =>
    intro k n hk hn
    obtain ⟨n, rfl⟩ : ∃ k, n = k + 1 := ⟨n - 1, by omega⟩
    have g := ih (k + 1) n (by omega) (by omega)
    have hl := fs.ls_length (tr.w.sv cs p) k
    have ha := tr.pays_at W (show k < 2 ^ p by omega)
    have hpl : ((tr.pays.sv cs p k).drop 1).length = p := by rw [List.length_drop, show (tr.pays.sv cs p k).length = p + 1 from ha.len]; omega
    have g0 := loop2b p k cs (fs.ls.sv (tr.w.sv cs p) k) ((tr.pays.sv cs p k).drop 1) f n w5 (by omega) (by omega) (fun x hm => ha.ran x (List.mem_of_mem_drop hm)) (by omega) p 0 f (by omega) (by omega)
    rw [hpl, tr.ss_tail (l := tr.pays.sv cs p k) ha.first p, show wo.ss.sv (tr.pays.sv cs p k) (p + 1) = tr.w.sv cs p k from rfl] at g0
    rw [fs.ls.sv, List.length_append, List.length_singleton] at g
    have g' := (congrArg (regc [2]) g0).trans g
    rw [hl] at g' ⊢
    rw [round0b]
    simp -implicitDefEqProofs (disch := omega) only [hs, s1, u1, take_one, set_one, decide_eq_true, decide_eq_false, IntWalk.i64_in, beqT, beqF, bneT, bneF, nat_succ, ← Int.natCast_mul, ← Int.natCast_add, Int.toNat_natCast, Int.zero_mul, Int.zero_add, Int.add_zero, Nat.zero_add, Nat.add_zero, Nat.zero_mul, List.length_singleton, List.length_append, List.length_nil, List.length_cons, List.take_length, List.drop_zero, List.replicate_zero, List.take_nil, List.nil_append, Nat.reduceBEq, Nat.reduceMul, Nat.reduceLeDiff, eq_self, and_self, true_and, and_true, decide_true, decide_false, Bool.and_self, Bool.or_self, Bool.and_true, Bool.true_and, Bool.and_false, Bool.false_and, Bool.or_true, Bool.true_or, Bool.or_false, Bool.false_or, Bool.not_true, Bool.not_false, cond_true, cond_false]
    exact g'
theorem run : ∀ args v new, R args = some (true, v, new) → ∃ fuel, regc [2] (runFn Try.prog (orcW [⟨80, l03Give.R⟩] [⟨110, l03Costs.R⟩, ⟨111, l03Tree.R⟩]) hd Dr.std none fuel (bodyOf Try.f52) 51 [.cell 4 41, 5] args []) = some (v, new) := by
  intro args v new h
  unfold R at h
  split at h
  · rename_i p cs m
    simp only [Option.some.injEq, Prod.mk.injEq, Bool.and_eq_true, decide_eq_true_eq] at h
    obtain ⟨⟨rfl, hs⟩, rfl, rfl⟩ := h
    have hs2 := hs
    obtain ⟨p, rfl, W⟩ := tr.valid hs2
    have w1 := W.p1
    have w5 := W.p5
    have wl := W.len
    have h32 : 2 ^ p ≤ 32 := Nat.pow_le_pow_right (by decide) w5
    have hpp := wo.pow_pos p
    have hsp : wo.sp (p : Int) (fs.ls.sv (tr.w.sv cs p) (2 ^ p)) = true := fs.ls_sp w1 (by omega) (tr.w_zero cs p) fun k hk => by
      have := tr.w_in W hk; omega
    have s1 := wo.shl_one p (by omega)
    have u1 := wo.u64_nat p (by omega)
    obtain ⟨F, hF⟩ : ∃ F : Nat, F = 100 := ⟨100, rfl⟩
    refine ⟨F + 1, ?_⟩
    have g := loop0 p cs (F + 1) W hs hsp (by omega) (2 ^ p - 1) 1 F (by omega) (by omega)
    have ha := tr.pays_at W (show 0 < 2 ^ p by omega)
    have hpl : ((tr.pays.sv cs p 0).drop 1).length = p := by rw [List.length_drop, show (tr.pays.sv cs p 0).length = p + 1 from ha.len]; omega
    have g0 := loop2a p 0 cs ((tr.pays.sv cs p 0).drop 1) (F + 1) F w5 (by omega) (by omega) (fun x hm => ha.ran x (List.mem_of_mem_drop hm)) p 0 (F + 1) (by omega) (by omega)
    rw [hpl, tr.ss_tail (l := tr.pays.sv cs p 0) ha.first p, show wo.ss.sv (tr.pays.sv cs p 0) (p + 1) = tr.w.sv cs p 0 from rfl] at g0
    have g' := (congrArg (regc [2]) g0).trans g
    rw [start]
    simp -implicitDefEqProofs (disch := omega) only [hs, take_one, set_one, decide_eq_true, decide_eq_false, IntWalk.i64_in, beqT, beqF, bneT, bneF, nat_succ, ← Int.natCast_mul, ← Int.natCast_add, Int.toNat_natCast, Int.zero_mul, Int.zero_add, Int.add_zero, Nat.zero_add, Nat.add_zero, Nat.zero_mul, List.length_singleton, List.length_append, List.length_nil, List.length_cons, List.take_length, List.drop_zero, List.replicate_zero, List.take_nil, List.nil_append, Nat.reduceBEq, Nat.reduceMul, Nat.reduceLeDiff, eq_self, and_self, true_and, and_true, decide_true, decide_false, Bool.and_self, Bool.or_self, Bool.and_true, Bool.true_and, Bool.and_false, Bool.false_and, Bool.or_true, Bool.true_or, Bool.or_false, Bool.false_or, Bool.not_true, Bool.not_false, cond_true, cond_false]
    rw [round0a]
    simp -implicitDefEqProofs (disch := omega) only [hs, s1, u1, take_one, set_one, decide_eq_true, decide_eq_false, IntWalk.i64_in, beqT, beqF, bneT, bneF, nat_succ, ← Int.natCast_mul, ← Int.natCast_add, Int.toNat_natCast, Int.zero_mul, Int.zero_add, Int.add_zero, Nat.zero_add, Nat.add_zero, Nat.zero_mul, List.length_singleton, List.length_append, List.length_nil, List.length_cons, List.take_length, List.drop_zero, List.replicate_zero, List.take_nil, List.nil_append, Nat.reduceBEq, Nat.reduceMul, Nat.reduceLeDiff, eq_self, and_self, true_and, and_true, decide_true, decide_false, Bool.and_self, Bool.or_self, Bool.and_true, Bool.true_and, Bool.and_false, Bool.false_and, Bool.or_true, Bool.true_or, Bool.or_false, Bool.false_or, Bool.not_true, Bool.not_false, cond_true, cond_false]
    exact g'
  · cases h
theorem ok : EntOk Try.prog ⟨52, R⟩ :=
  ent_okAG (ks := [2]) mixed (A := (orcW [⟨80, l03Give.R⟩] [⟨110, l03Costs.R⟩, ⟨111, l03Tree.R⟩])) (orcW_ok (by simp only [List.mem_cons, List.not_mem_nil, or_false, forall_eq_or_imp, forall_eq]; exact l03Give.ok) (by simp only [List.mem_cons, List.not_mem_nil, or_false, forall_eq_or_imp, forall_eq]; exact ⟨l03Costs.ok, l03Tree.ok⟩)) Try.func52 (by kernel_rfl) (by kernel_rfl) (n := 51) (ts := [.cell 4 41, 5]) (hd := hd) (dr := Dr.std) (cut := none) (by kernel_rfl) (by kernel_rfl) (by kernel_rfl) run
end sTreeWorths

namespace B10Costs
def R : List AVal → Option (Bool × AVal × List Blk)
  | [.ro (.ints .u8 xs) m 1, .int .i64 p] => some (decide (m = xs.length ∧ m ≤ 2000000 ∧ 0 ≤ p ∧ p ≤ 5) && r8.bytes.sp xs, .own 0 0 ((p.toNat + 1) * (p.toNat + 1)) 0 1, [⟨.typ (.ints .i64 (tr.co.sv xs (p.toNat + 1) (p.toNat + 1)).os), 0⟩])
  | _ => none
def hd : Nat → Head := fun i => bif eqN i 0 then ⟨[5, 6, 7, 8, 998], none⟩ else ⟨[5, 6, 7, 8, 9, 998], none⟩
noncomputable def L0 (f n : Nat) (s : State) := loopAt Try.prog (orcW [⟨55, bPick.R⟩] [⟨53, l00From.R⟩]) hd Dr.std 0 f (bodyOf Try.f49) 0 [true, true, true, true, false, true] (retK Try.prog [4] 0 none) n s
noncomputable def L2 (f n n2 : Nat) (s : State) := loopAt Try.prog (orcW [⟨55, bPick.R⟩] [⟨53, l00From.R⟩]) hd Dr.std 0 f (bodyAt (bodyOf Try.f49) [true, true, true, true, false, true]) (curAt (bodyOf Try.f49) 0 [true, true, true, true, false, true]) [true, false, true] (iterK (normE 0 (hd (curAt (bodyOf Try.f49) 0 [true, true, true, true, false, true]))) (L0 f n) (contAt Try.prog (orcW [⟨55, bPick.R⟩] [⟨53, l00From.R⟩]) hd Dr.std 0 f (bodyOf Try.f49) 0 [true, true, true, true, false, true] (retK Try.prog [4] 0 none))) n2 s
theorem start (p : Int) (xs : List Int) (f : Nat) :
  runFn Try.prog (orcW [⟨55, bPick.R⟩] [⟨53, l00From.R⟩]) hd Dr.std none f (bodyOf Try.f49) 53 [4] [.ro (.ints .u8 xs) xs.length 1, .int .i64 p] []
  = (bif true && (true && true || true && (false && true && true)) then bif (1 : Nat) == (1 : Nat) && (IntKind.i64.wrap (IntKind.i64.wrap (p + (1 : Int)) * IntKind.i64.wrap (p + (1 : Int))) == IntKind.i64.wrap (IntKind.i64.wrap (p + (1 : Int)) * IntKind.i64.wrap (p + (1 : Int))) && (decide ((0 : Int) ≤ IntKind.i64.wrap (IntKind.i64.wrap (p + (1 : Int)) * IntKind.i64.wrap (p + (1 : Int)))) && (decide (IntKind.i64.wrap (IntKind.i64.wrap (p + (1 : Int)) * IntKind.i64.wrap (p + (1 : Int))) * (8 : Int) ≤ (140737488355328 : Int)) && decide (IntKind.i64.wrap (IntKind.i64.wrap (p + (1 : Int)) * IntKind.i64.wrap (p + (1 : Int))) ≤ (4611686018427387904 : Int))))) then L0 f f (mkS (53 : Nat) [((5 : Nat), AVal.ptr (0 : Nat) (0 : Nat) (0 : Nat)), ((6 : Nat), AVal.int IntKind.i64 (IntKind.i64.wrap (p + (1 : Int)))), ((7 : Nat), AVal.own (1 : Nat) (0 : Nat) (IntKind.i64.wrap (IntKind.i64.wrap (p + (1 : Int)) * IntKind.i64.wrap (p + (1 : Int)))).toNat (0 : Nat) (1 : Nat)), ((8 : Nat), AVal.int IntKind.i64 (0 : Int))] [{ c := BC.cells [AVal.ro (Cont.ints IntKind.u8 xs) xs.length (1 : Nat), AVal.int IntKind.i64 (0 : Int), AVal.int IntKind.u64 (0 : Int)], ver := (0 : Nat) }, { c := BC.typ (Cont.ints IntKind.i64 (List.replicate (IntKind.i64.wrap (IntKind.i64.wrap (p + (1 : Int)) * IntKind.i64.wrap (p + (1 : Int)))).toNat (0 : Int))), ver := (0 : Nat) }]) else none else none) := by kernel_rfl
theorem round0 (nn i a s : Int) (xs os : List Int) (q f n : Nat) :
  L0 f (n + 1) (mkS 53 [(5, .ptr 0 0 0), (6, .int .i64 nn), (7, .own 1 0 q 0 1), (8, .int .i64 i)] [⟨.cells [.ro (.ints .u8 xs) xs.length 1, .int .i64 a, .int .u64 s], 0⟩, ⟨.typ (.ints .i64 os), 0⟩])
  = (bif decide (i < nn) then L2 f n f (mkS (53 : Nat) [((5 : Nat), AVal.ptr (0 : Nat) (0 : Nat) (0 : Nat)), ((6 : Nat), AVal.int IntKind.i64 nn), ((7 : Nat), AVal.own (1 : Nat) (0 : Nat) q (0 : Nat) (1 : Nat)), ((8 : Nat), AVal.int IntKind.i64 i), ((9 : Nat), AVal.int IntKind.i64 (0 : Int))] [{ c := BC.cells [AVal.ro (Cont.ints IntKind.u8 xs) xs.length (1 : Nat), AVal.int IntKind.i64 a, AVal.int IntKind.u64 s], ver := (0 : Nat) }, { c := BC.typ (Cont.ints IntKind.i64 os), ver := (0 : Nat) }]) else some (AVal.own (1 : Nat) (0 : Nat) q (0 : Nat) (1 : Nat), [{ c := BC.cells [AVal.ro (Cont.ints IntKind.u8 xs) xs.length (1 : Nat), AVal.int IntKind.i64 a, AVal.int IntKind.u64 s], ver := (0 : Nat) }, { c := BC.typ (Cont.ints IntKind.i64 os), ver := (0 : Nat) }])) := by kernel_rfl
theorem round2 (nn i a s : Int) (xs os : List Int) (q f n : Nat) (k : Int) (n2 : Nat) :
  L2 f n (n2 + 1) (mkS 53 [(5, .ptr 0 0 0), (6, .int .i64 nn), (7, .own 1 0 q 0 1), (8, .int .i64 i), (9, .int .i64 k)] [⟨.cells [.ro (.ints .u8 xs) xs.length 1, .int .i64 a, .int .u64 s], 0⟩, ⟨.typ (.ints .i64 os), 0⟩])
  = (bif decide (k < i) then bif decide (xs.length = xs.length ∧ xs.length ≤ (2000000 : Nat) ∧ (0 : Int) ≤ a ∧ a ≤ (1000000 : Int) ∧ (1 : Int) ≤ (9 : Int) ∧ (9 : Int) ≤ (200 : Int)) && (true && (true && true)) then bif true && (decide ((0 : Int) ≤ IntKind.i64.wrap (IntKind.i64.wrap (i * nn) + k)) && decide (IntKind.i64.wrap (IntKind.i64.wrap (i * nn) + k) < (↑q : Int))) then bif true && (true && (decide ((IntKind.i64.wrap (IntKind.i64.wrap (i * nn) + k)).toNat < os.length) && true)) then bif true && (decide ((0 : Int) ≤ IntKind.i64.wrap (IntKind.i64.wrap (i * nn) + k)) && decide (IntKind.i64.wrap (IntKind.i64.wrap (i * nn) + k) < (↑q : Int))) then bif true && decide ((IntKind.i64.wrap (IntKind.i64.wrap (i * nn) + k)).toNat < (os.set (IntKind.i64.wrap (IntKind.i64.wrap (i * nn) + k)).toNat ((r8.nx.sv xs a.toNat s).tmod (9 : Int))).length) then bif true && (decide ((0 : Int) ≤ IntKind.i64.wrap (IntKind.i64.wrap (k * nn) + i)) && decide (IntKind.i64.wrap (IntKind.i64.wrap (k * nn) + i) < (↑q : Int))) then bif true && (true && (decide ((IntKind.i64.wrap (IntKind.i64.wrap (k * nn) + i)).toNat < (os.set (IntKind.i64.wrap (IntKind.i64.wrap (i * nn) + k)).toNat ((r8.nx.sv xs a.toNat s).tmod (9 : Int))).length) && true)) then L2 f n n2 (mkS (53 : Nat) [((5 : Nat), AVal.ptr (0 : Nat) (0 : Nat) (0 : Nat)), ((6 : Nat), AVal.int IntKind.i64 nn), ((7 : Nat), AVal.own (1 : Nat) (0 : Nat) q (0 : Nat) (1 : Nat)), ((8 : Nat), AVal.int IntKind.i64 i), ((9 : Nat), AVal.int IntKind.i64 (IntKind.i64.wrap (k + (1 : Int))))] [{ c := BC.cells [AVal.ro (Cont.ints IntKind.u8 xs) xs.length (1 : Nat), AVal.int IntKind.i64 (a + (1 : Int)), AVal.int IntKind.u64 (r8.seed.sv xs a.toNat s)], ver := (0 : Nat) }, { c := BC.typ (Cont.ints IntKind.i64 ((os.set (IntKind.i64.wrap (IntKind.i64.wrap (i * nn) + k)).toNat ((r8.nx.sv xs a.toNat s).tmod (9 : Int))).set (IntKind.i64.wrap (IntKind.i64.wrap (k * nn) + i)).toNat (gz (os.set (IntKind.i64.wrap (IntKind.i64.wrap (i * nn) + k)).toNat ((r8.nx.sv xs a.toNat s).tmod (9 : Int))) (IntKind.i64.wrap (IntKind.i64.wrap (i * nn) + k)).toNat))), ver := (0 : Nat) }]) else none else none else none else none else none else none else none else L0 f n (mkS (53 : Nat) [((5 : Nat), AVal.ptr (0 : Nat) (0 : Nat) (0 : Nat)), ((6 : Nat), AVal.int IntKind.i64 nn), ((7 : Nat), AVal.own (1 : Nat) (0 : Nat) q (0 : Nat) (1 : Nat)), ((8 : Nat), AVal.int IntKind.i64 (IntKind.i64.wrap (i + (1 : Int))))] [{ c := BC.cells [AVal.ro (Cont.ints IntKind.u8 xs) xs.length (1 : Nat), AVal.int IntKind.i64 a, AVal.int IntKind.u64 s], ver := (0 : Nat) }, { c := BC.typ (Cont.ints IntKind.i64 os), ver := (0 : Nat) }])) := by kernel_rfl
theorem loop2 (p i : Nat) (r : tr.Rw) (xs : List Int) (f n : Nat) (w5 : p ≤ 5) (hi : i < p + 1) (hxl : xs.length ≤ 2000000) (hb : r8.bytes.sp xs = true) (hr : tr.Sym (p + 1) r.os) (hra : r.a ≤ 1000) : ∀ (d k n2 : Nat), k + d = i → d < n2 →
    L2 f n n2 (mkS 53 [(5, .ptr 0 0 0), (6, .int .i64 ((p + 1 : Nat) : Int)), (7, .own 1 0 ((p + 1) * (p + 1)) 0 1), (8, .int .i64 ((i : Nat) : Int)), (9, .int .i64 ((k : Nat) : Int))] [⟨.cells [.ro (.ints .u8 xs) xs.length 1, .int .i64 (((tr.ci.sv xs (p + 1) i r k).a : Nat) : Int), .int .u64 (tr.ci.sv xs (p + 1) i r k).s], 0⟩, ⟨.typ (.ints .i64 (tr.ci.sv xs (p + 1) i r k).os), 0⟩]) = L0 f n (mkS 53 [(5, .ptr 0 0 0), (6, .int .i64 ((p + 1 : Nat) : Int)), (7, .own 1 0 ((p + 1) * (p + 1)) 0 1), (8, .int .i64 ((i + 1 : Nat) : Int))] [⟨.cells [.ro (.ints .u8 xs) xs.length 1, .int .i64 (((tr.ci.sv xs (p + 1) i r i).a : Nat) : Int), .int .u64 (tr.ci.sv xs (p + 1) i r i).s], 0⟩, ⟨.typ (.ints .i64 (tr.ci.sv xs (p + 1) i r i).os), 0⟩]) := by
  have qq : (p + 1) * (p + 1) ≤ 36 := Nat.mul_le_mul (show p + 1 ≤ 6 by omega) (show p + 1 ≤ 6 by omega)
  intro d
  induction d with
  | zero =>
    intro k n2 hk hn
    obtain ⟨n2, rfl⟩ : ∃ k, n2 = k + 1 := ⟨n2 - 1, by omega⟩
    obtain rfl : k = i := by omega
    rw [round2]
    simp -implicitDefEqProofs (disch := omega) only [take_one, set_one, decide_eq_true, decide_eq_false, IntWalk.i64_in, beqT, beqF, bneT, bneF, nat_succ, ← Int.natCast_mul, ← Int.natCast_add, Int.toNat_natCast, Int.zero_mul, Int.zero_add, Int.add_zero, Nat.zero_add, Nat.add_zero, Nat.zero_mul, List.length_singleton, List.length_append, List.length_nil, List.length_cons, List.take_length, List.drop_zero, List.replicate_zero, List.take_nil, List.nil_append, Nat.reduceBEq, Nat.reduceMul, Nat.reduceLeDiff, eq_self, and_self, true_and, and_true, decide_true, decide_false, Bool.and_self, Bool.or_self, Bool.and_true, Bool.true_and, Bool.and_false, Bool.false_and, Bool.or_true, Bool.true_or, Bool.or_false, Bool.false_or, Bool.not_true, Bool.not_false, cond_true, cond_false]
  | succ d ih =>
    intro k n2 hk hn
    obtain ⟨n2, rfl⟩ : ∃ k, n2 = k + 1 := ⟨n2 - 1, by omega⟩
    have g := ih (k + 1) n2 (by omega) (by omega)
    have hi1 := tr.idx_lt (n := p + 1) (i := i) (k := k) (by omega) (by omega)
    have hi2 := tr.idx_lt (n := p + 1) (i := k) (k := i) (by omega) (by omega)
    have hy := tr.ci_sym hb hi hr k (by omega)
    have ha := tr.ci_a xs (p + 1) i r k
    have hyl := hy.len
    rw [tr.ci.sv] at g
    generalize tr.ci.sv xs (p + 1) i r k = z at g hy ha hyl ⊢
    have hgs : ∀ v : Int, gz (z.os.set (i * (p + 1) + k) v) (i * (p + 1) + k) = v := fun v => by rw [gz_set (by omega), if_pos rfl]
    have na : ((z.a : Nat) : Int) + 1 = ((z.a + 1 : Nat) : Int) := rfl
    rw [round2]
    simp -implicitDefEqProofs (disch := omega) only [hgs, List.length_set, take_one, set_one, decide_eq_true, decide_eq_false, IntWalk.i64_in, beqT, beqF, bneT, bneF, nat_succ, ← Int.natCast_mul, ← Int.natCast_add, Int.toNat_natCast, Int.zero_mul, Int.zero_add, Int.add_zero, Nat.zero_add, Nat.add_zero, Nat.zero_mul, List.length_singleton, List.length_append, List.length_nil, List.length_cons, List.take_length, List.drop_zero, List.replicate_zero, List.take_nil, List.nil_append, Nat.reduceBEq, Nat.reduceMul, Nat.reduceLeDiff, eq_self, and_self, true_and, and_true, decide_true, decide_false, Bool.and_self, Bool.or_self, Bool.and_true, Bool.true_and, Bool.and_false, Bool.false_and, Bool.or_true, Bool.true_or, Bool.or_false, Bool.false_or, Bool.not_true, Bool.not_false, cond_true, cond_false]
    exact g
theorem loop0 (p : Nat) (xs : List Int) (f : Nat) (w5 : p ≤ 5) (hxl : xs.length ≤ 2000000) (hb : r8.bytes.sp xs = true) (hf : 10 < f) : ∀ (d i n : Nat), i + d = p + 1 → d < n →
    regc [1] (L0 f n (mkS 53 [(5, .ptr 0 0 0), (6, .int .i64 ((p + 1 : Nat) : Int)), (7, .own 1 0 ((p + 1) * (p + 1)) 0 1), (8, .int .i64 ((i : Nat) : Int))] [⟨.cells [.ro (.ints .u8 xs) xs.length 1, .int .i64 (((tr.co.sv xs (p + 1) i).a : Nat) : Int), .int .u64 (tr.co.sv xs (p + 1) i).s], 0⟩, ⟨.typ (.ints .i64 (tr.co.sv xs (p + 1) i).os), 0⟩])) = some (.own 0 0 ((p + 1) * (p + 1)) 0 1, [⟨.typ (.ints .i64 (tr.co.sv xs (p + 1) (p + 1)).os), 0⟩]) := by
  have qq : (p + 1) * (p + 1) ≤ 36 := Nat.mul_le_mul (show p + 1 ≤ 6 by omega) (show p + 1 ≤ 6 by omega)
  intro d
  induction d with
  | zero =>
    intro i n hk hn
    obtain ⟨n, rfl⟩ : ∃ k, n = k + 1 := ⟨n - 1, by omega⟩
    obtain rfl : i = p + 1 := by omega
    rw [round0]
    simp -implicitDefEqProofs (disch := omega) only [take_one, set_one, decide_eq_true, decide_eq_false, IntWalk.i64_in, beqT, beqF, bneT, bneF, nat_succ, ← Int.natCast_mul, ← Int.natCast_add, Int.toNat_natCast, Int.zero_mul, Int.zero_add, Int.add_zero, Nat.zero_add, Nat.add_zero, Nat.zero_mul, List.length_singleton, List.length_append, List.length_nil, List.length_cons, List.take_length, List.drop_zero, List.replicate_zero, List.take_nil, List.nil_append, Nat.reduceBEq, Nat.reduceMul, Nat.reduceLeDiff, eq_self, and_self, true_and, and_true, decide_true, decide_false, Bool.and_self, Bool.or_self, Bool.and_true, Bool.true_and, Bool.and_false, Bool.false_and, Bool.or_true, Bool.true_or, Bool.or_false, Bool.false_or, Bool.not_true, Bool.not_false, cond_true, cond_false]
    rfl
  | succ d ih =>
    intro i n hk hn
    obtain ⟨n, rfl⟩ : ∃ k, n = k + 1 := ⟨n - 1, by omega⟩
    have g := ih (i + 1) n (by omega) (by omega)
    have hy := tr.co_sym hb (n := p + 1) i (by omega)
    have ha := tr.co_a xs (p + 1) i (by omega)
    have g0 := loop2 p i (tr.co.sv xs (p + 1) i) xs f n w5 (by omega) hxl hb hy (by omega) i 0 f (by omega) (by omega)
    rw [tr.co.sv] at g
    have g' := (congrArg (regc [1]) g0).trans g
    rw [round0]
    simp -implicitDefEqProofs (disch := omega) only [take_one, set_one, decide_eq_true, decide_eq_false, IntWalk.i64_in, beqT, beqF, bneT, bneF, nat_succ, ← Int.natCast_mul, ← Int.natCast_add, Int.toNat_natCast, Int.zero_mul, Int.zero_add, Int.add_zero, Nat.zero_add, Nat.add_zero, Nat.zero_mul, List.length_singleton, List.length_append, List.length_nil, List.length_cons, List.take_length, List.drop_zero, List.replicate_zero, List.take_nil, List.nil_append, Nat.reduceBEq, Nat.reduceMul, Nat.reduceLeDiff, eq_self, and_self, true_and, and_true, decide_true, decide_false, Bool.and_self, Bool.or_self, Bool.and_true, Bool.true_and, Bool.and_false, Bool.false_and, Bool.or_true, Bool.true_or, Bool.or_false, Bool.false_or, Bool.not_true, Bool.not_false, cond_true, cond_false]
    exact g'
theorem run : ∀ args v new, R args = some (true, v, new) → ∃ fuel, regc [1] (runFn Try.prog (orcW [⟨55, bPick.R⟩] [⟨53, l00From.R⟩]) hd Dr.std none fuel (bodyOf Try.f49) 53 [4] args []) = some (v, new) := by
  intro args v new h
  unfold R at h
  split at h
  · rename_i xs m p
    simp only [Option.some.injEq, Prod.mk.injEq, Bool.and_eq_true, decide_eq_true_eq] at h
    obtain ⟨⟨⟨rfl, h2, h3, h4⟩, hb⟩, rfl, rfl⟩ := h
    obtain ⟨p, rfl⟩ : ∃ q : Nat, p = q := ⟨p.toNat, by omega⟩
    have qq : (p + 1) * (p + 1) ≤ 36 := Nat.mul_le_mul (show p + 1 ≤ 6 by omega) (show p + 1 ≤ 6 by omega)
    obtain ⟨F, hF⟩ : ∃ F : Nat, F = 100 := ⟨100, rfl⟩
    refine ⟨F, ?_⟩
    have g := loop0 p xs F (by omega) h2 hb (by omega) (p + 1) 0 F (by omega) (by omega)
    rw [start]
    simp -implicitDefEqProofs (disch := omega) only [take_one, set_one, decide_eq_true, decide_eq_false, IntWalk.i64_in, beqT, beqF, bneT, bneF, nat_succ, ← Int.natCast_mul, ← Int.natCast_add, Int.toNat_natCast, Int.zero_mul, Int.zero_add, Int.add_zero, Nat.zero_add, Nat.add_zero, Nat.zero_mul, List.length_singleton, List.length_append, List.length_nil, List.length_cons, List.take_length, List.drop_zero, List.replicate_zero, List.take_nil, List.nil_append, Nat.reduceBEq, Nat.reduceMul, Nat.reduceLeDiff, eq_self, and_self, true_and, and_true, decide_true, decide_false, Bool.and_self, Bool.or_self, Bool.and_true, Bool.true_and, Bool.and_false, Bool.false_and, Bool.or_true, Bool.true_or, Bool.or_false, Bool.false_or, Bool.not_true, Bool.not_false, cond_true, cond_false]
    exact g
  · cases h
theorem ok : EntOk Try.prog ⟨49, R⟩ :=
  ent_okAG (ks := [1]) mixed (A := (orcW [⟨55, bPick.R⟩] [⟨53, l00From.R⟩])) (orcW_ok (by simp only [List.mem_cons, List.not_mem_nil, or_false, forall_eq_or_imp, forall_eq]; exact bPick.ok) (by simp only [List.mem_cons, List.not_mem_nil, or_false, forall_eq_or_imp, forall_eq]; exact l00From.ok)) Try.func49 (by kernel_rfl) (by kernel_rfl) (n := 53) (ts := [4]) (hd := hd) (dr := Dr.std) (cut := none) (by kernel_rfl) (by kernel_rfl) (by kernel_rfl) run
end B10Costs

namespace b10In
def R : List AVal → Option (Bool × AVal × List Blk)
  | [.int .i64 k, .int .i64 i] => some (decide (0 ≤ k ∧ k < 64 ∧ 0 ≤ i ∧ i < 6), .bool (!wo.off.sp k.toNat i.toNat), [])
  | _ => none
theorem go (k i : Int) :
  runFn Try.prog (orc []) hd0 Dr.std none 0 (bodyOf Try.f47) 11 [4] [.int .i64 k, .int .i64 i] []
  = (bif decide ((0 : Int) ≤ IntKind.u64.wrap i) then some (AVal.bool (iand.sv IntKind.i64 (ishr.sv IntKind.i64 k (IntKind.u64.wrap i)) (1 : Int) == (1 : Int)), []) else none) := by kernel_rfl
theorem run : ∀ args v new, R args = some (true, v, new) → ∃ fuel, runFn Try.prog (orc []) hd0 Dr.std none fuel (bodyOf Try.f47) 11 [4] args [] = some (v, new) := by
  intro args v new h
  unfold R at h
  split at h
  · rename_i k i
    simp only [Option.some.injEq, Prod.mk.injEq, decide_eq_true_eq] at h
    obtain ⟨⟨h1, h2, h3, h4⟩, rfl, rfl⟩ := h
    obtain ⟨k, rfl⟩ : ∃ q : Nat, k = q := ⟨k.toNat, by omega⟩
    obtain ⟨i, rfl⟩ : ∃ q : Nat, i = q := ⟨i.toNat, by omega⟩
    have e1 := wo.u64_nat i (by omega)
    refine ⟨0, ?_⟩
    rw [go, Int.toNat_natCast, Int.toNat_natCast]
    cases ho : wo.off.sp k i with
    | false =>
      have s1 := vo.shr_f (by omega) (by omega) ho
      simp -implicitDefEqProofs (disch := omega) only [e1, s1, take_one, set_one, decide_eq_true, decide_eq_false, IntWalk.i64_in, beqT, beqF, bneT, bneF, nat_succ, ← Int.natCast_mul, ← Int.natCast_add, Int.toNat_natCast, Int.zero_mul, Int.zero_add, Int.add_zero, Nat.zero_add, Nat.add_zero, Nat.zero_mul, List.length_singleton, List.length_append, List.length_nil, List.length_cons, List.take_length, List.drop_zero, List.replicate_zero, List.take_nil, List.nil_append, Nat.reduceBEq, Nat.reduceMul, Nat.reduceLeDiff, eq_self, and_self, true_and, and_true, decide_true, decide_false, Bool.and_self, Bool.or_self, Bool.and_true, Bool.true_and, Bool.and_false, Bool.false_and, Bool.or_true, Bool.true_or, Bool.or_false, Bool.false_or, Bool.not_true, Bool.not_false, cond_true, cond_false]
      try rfl
    | true =>
      have s1 := vo.shr_t (by omega) (by omega) ho
      simp -implicitDefEqProofs (disch := omega) only [e1, s1, take_one, set_one, decide_eq_true, decide_eq_false, IntWalk.i64_in, beqT, beqF, bneT, bneF, nat_succ, ← Int.natCast_mul, ← Int.natCast_add, Int.toNat_natCast, Int.zero_mul, Int.zero_add, Int.add_zero, Nat.zero_add, Nat.add_zero, Nat.zero_mul, List.length_singleton, List.length_append, List.length_nil, List.length_cons, List.take_length, List.drop_zero, List.replicate_zero, List.take_nil, List.nil_append, Nat.reduceBEq, Nat.reduceMul, Nat.reduceLeDiff, eq_self, and_self, true_and, and_true, decide_true, decide_false, Bool.and_self, Bool.or_self, Bool.and_true, Bool.true_and, Bool.and_false, Bool.false_and, Bool.or_true, Bool.true_or, Bool.or_false, Bool.false_or, Bool.not_true, Bool.not_false, cond_true, cond_false]
      try rfl
  · cases h
theorem ok : EntOk Try.prog ⟨47, R⟩ :=
  ent_okA mixed (A := (orc [])) (orc_ok (by simp)) Try.func47 (by kernel_rfl) (by kernel_rfl) (n := 11) (ts := [4]) (hd := hd0) (dr := Dr.std) (cut := none) (by kernel_rfl) (by kernel_rfl) (by kernel_rfl) run
end b10In

end Go.Proofs.Ytadcpdjcadnepaa.Ab
