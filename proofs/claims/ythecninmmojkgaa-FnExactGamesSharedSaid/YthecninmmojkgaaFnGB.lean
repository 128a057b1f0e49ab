/-
  Functions: games with both players exchanged.
-/
import Derived.Test.YthecninmmojkgaaFnGA
namespace Go.Proofs.Ythecninmmojkgaa.Ab
open Go
set_option linter.unusedVariables false
set_option linter.unusedSimpArgs false
set_option maxRecDepth 100000

namespace l02Turn
def R : List AVal → Option (Bool × AVal × List Blk)
  | [.rom [.int .i64 r, .int .i64 c, .ro (.ints .i64 xs) ma 1, .ro (.ints .i64 ys) mb 1] 0] => some (decide (ma = xs.length ∧ mb = ys.length) && gm.sp r c xs ys, .agg [.int .i64 c, .int .i64 r, .own 0 0 (c * r).toNat 0 1, .own 1 0 (c * r).toNat 0 1], [⟨.typ (.ints .i64 (tn.sv r.toNat c.toNat ys)), 0⟩, ⟨.typ (.ints .i64 (tn.sv r.toNat c.toNat xs)), 0⟩])
  | _ => none
def hd : Nat → Head := fun i => bif eqN i 2 then ⟨[0, 2, 3, 4, 5], some 6⟩ else ⟨[0, 2, 3, 4], some 6⟩
noncomputable def L1 (f n : Nat) (s : State) := loopAt Try.prog (orc []) hd Dr.std 0 f (bodyOf Try.f67) 0 [true, true, false, true] (retK Try.prog [.cell 2 56] 0 none) n s
noncomputable def L2 (f n n2 : Nat) (s : State) := loopAt Try.prog (orc []) hd Dr.std 0 f (bodyAt (bodyOf Try.f67) [true, true, false, true]) (curAt (bodyOf Try.f67) 0 [true, true, false, true]) [true, false, true] (iterK (normE 0 (hd (curAt (bodyOf Try.f67) 0 [true, true, false, true]))) (L1 f n) (contAt Try.prog (orc []) hd Dr.std 0 f (bodyOf Try.f67) 0 [true, true, false, true] (retK Try.prog [.cell 2 56] 0 none))) n2 s
theorem start (r c : Nat) (xs ys : List Int) (f : Nat) :
  runFn Try.prog (orc []) hd Dr.std none f (bodyOf Try.f67) 70 [.cell 2 56] [.rom [.int .i64 r, .int .i64 c, .ro (.ints .i64 xs) xs.length 1, .ro (.ints .i64 ys) ys.length 1] 0] []
  = (L1 f f (mkS (70 : Nat) [((0 : Nat), AVal.rom [AVal.int IntKind.i64 (↑r : Int), AVal.int IntKind.i64 (↑c : Int), AVal.ro (Cont.ints IntKind.i64 xs) xs.length (1 : Nat), AVal.ro (Cont.ints IntKind.i64 ys) ys.length (1 : Nat)] (0 : Nat)), ((2 : Nat), AVal.ptr (0 : Nat) (0 : Nat) (0 : Nat)), ((3 : Nat), AVal.ptr (1 : Nat) (0 : Nat) (0 : Nat)), ((4 : Nat), AVal.int IntKind.i64 (0 : Int))] [{ c := BC.cells [AVal.int IntKind.i64 (0 : Int), AVal.int IntKind.i64 (0 : Int), AVal.nils, AVal.nils], ver := (0 : Nat) }, { c := BC.cells [AVal.int IntKind.i64 (↑c : Int), AVal.int IntKind.i64 (↑r : Int), AVal.nils, AVal.nils], ver := (0 : Nat) }])) := by kernel_rfl
theorem round1z (r c : Nat) (xs ys : List Int) (k : Nat) (f n : Nat) :
  L1 f (n + 1) (mkS 70 [(0, .rom [.int .i64 r, .int .i64 c, .ro (.ints .i64 xs) xs.length 1, .ro (.ints .i64 ys) ys.length 1] 0), (2, .ptr 0 0 0), (3, .ptr 1 0 0), (4, .int .i64 k)] [⟨.cells [.int .i64 0, .int .i64 0, .nils, .nils], 0⟩, ⟨.cells [.int .i64 c, .int .i64 r, .nils, .nils], 0⟩])
  = (bif decide ((↑k : Int) < (↑c : Int)) then L2 f n f (mkS (70 : Nat) [((0 : Nat), AVal.rom [AVal.int IntKind.i64 (↑r : Int), AVal.int IntKind.i64 (↑c : Int), AVal.ro (Cont.ints IntKind.i64 xs) xs.length (1 : Nat), AVal.ro (Cont.ints IntKind.i64 ys) ys.length (1 : Nat)] (0 : Nat)), ((2 : Nat), AVal.ptr (0 : Nat) (0 : Nat) (0 : Nat)), ((3 : Nat), AVal.ptr (1 : Nat) (0 : Nat) (0 : Nat)), ((4 : Nat), AVal.int IntKind.i64 (↑k : Int)), ((5 : Nat), AVal.int IntKind.i64 (0 : Int))] [{ c := BC.cells [AVal.int IntKind.i64 (0 : Int), AVal.int IntKind.i64 (0 : Int), AVal.nils, AVal.nils], ver := (0 : Nat) }, { c := BC.cells [AVal.int IntKind.i64 (↑c : Int), AVal.int IntKind.i64 (↑r : Int), AVal.nils, AVal.nils], ver := (0 : Nat) }]) else bif true && true && (true && true && (true && true && (true && true && true))) then bif true && true && (true && true && (true && true && (true && true && true))) && true then some (AVal.agg [AVal.int IntKind.i64 (↑c : Int), AVal.int IntKind.i64 (↑r : Int), AVal.nils, AVal.nils], [{ c := BC.cells [AVal.int IntKind.i64 (↑c : Int), AVal.int IntKind.i64 (↑r : Int), AVal.nils, AVal.nils], ver := (0 : Nat) }, { c := BC.cells [AVal.int IntKind.i64 (↑c : Int), AVal.int IntKind.i64 (↑r : Int), AVal.nils, AVal.nils], ver := (0 : Nat) }]) else none else none) := by kernel_rfl
theorem round2z (r c : Nat) (xs ys : List Int) (k i : Nat) (f n n2 : Nat) :
  L2 f n (n2 + 1) (mkS 70 [(0, .rom [.int .i64 r, .int .i64 c, .ro (.ints .i64 xs) xs.length 1, .ro (.ints .i64 ys) ys.length 1] 0), (2, .ptr 0 0 0), (3, .ptr 1 0 0), (4, .int .i64 k), (5, .int .i64 i)] [⟨.cells [.int .i64 0, .int .i64 0, .nils, .nils], 0⟩, ⟨.cells [.int .i64 c, .int .i64 r, .nils, .nils], 0⟩])
  = (bif decide ((↑i : Int) < (↑r : Int)) then bif true && true then bif true && (decide ((0 : Int) ≤ IntKind.i64.wrap (IntKind.i64.wrap ((↑i : Int) * (↑c : Int)) + (↑k : Int))) && decide (IntKind.i64.wrap (IntKind.i64.wrap ((↑i : Int) * (↑c : Int)) + (↑k : Int)) < (↑ys.length : Int))) then bif decide ((IntKind.i64.wrap (IntKind.i64.wrap ((↑i : Int) * (↑c : Int)) + (↑k : Int))).toNat < ys.length) then bif (1 : Nat) == (1 : Nat) && (1 : Nat) == (1 : Nat) && (true && true && (decide ((0 : Nat) < (List.take (1 : Nat) (List.drop (0 : Nat) ((List.replicate (1 : Nat) (0 : Int)).set (0 : Nat) (gz ys (IntKind.i64.wrap (IntKind.i64.wrap ((↑i : Int) * (↑c : Int)) + (↑k : Int))).toNat)))).length) && (decide ((List.take (1 : Nat) (List.drop (0 : Nat) ((List.replicate (1 : Nat) (0 : Int)).set (0 : Nat) (gz ys (IntKind.i64.wrap (IntKind.i64.wrap ((↑i : Int) * (↑c : Int)) + (↑k : Int))).toNat)))).length ≤ (4611686018427387904 : Nat)) && decide ((List.take (1 : Nat) (List.drop (0 : Nat) ((List.replicate (1 : Nat) (0 : Int)).set (0 : Nat) (gz ys (IntKind.i64.wrap (IntKind.i64.wrap ((↑i : Int) * (↑c : Int)) + (↑k : Int))).toNat)))).length * (8 : Nat) ≤ (140737488355328 : Nat))))) then bif true && true then bif true && (decide ((0 : Int) ≤ IntKind.i64.wrap (IntKind.i64.wrap ((↑i : Int) * (↑c : Int)) + (↑k : Int))) && decide (IntKind.i64.wrap (IntKind.i64.wrap ((↑i : Int) * (↑c : Int)) + (↑k : Int)) < (↑xs.length : Int))) then bif decide ((IntKind.i64.wrap (IntKind.i64.wrap ((↑i : Int) * (↑c : Int)) + (↑k : Int))).toNat < xs.length) then bif (1 : Nat) == (1 : Nat) && (1 : Nat) == (1 : Nat) && (true && true && (decide ((0 : Nat) < (List.take (1 : Nat) (List.drop (0 : Nat) ((List.replicate (1 : Nat) (0 : Int)).set (0 : Nat) (gz xs (IntKind.i64.wrap (IntKind.i64.wrap ((↑i : Int) * (↑c : Int)) + (↑k : Int))).toNat)))).length) && (decide ((List.take (1 : Nat) (List.drop (0 : Nat) ((List.replicate (1 : Nat) (0 : Int)).set (0 : Nat) (gz xs (IntKind.i64.wrap (IntKind.i64.wrap ((↑i : Int) * (↑c : Int)) + (↑k : Int))).toNat)))).length ≤ (4611686018427387904 : Nat)) && decide ((List.take (1 : Nat) (List.drop (0 : Nat) ((List.replicate (1 : Nat) (0 : Int)).set (0 : Nat) (gz xs (IntKind.i64.wrap (IntKind.i64.wrap ((↑i : Int) * (↑c : Int)) + (↑k : Int))).toNat)))).length * (8 : Nat) ≤ (140737488355328 : Nat))))) then L2 f n n2 (mkS (70 : Nat) [((0 : Nat), AVal.rom [AVal.int IntKind.i64 (↑r : Int), AVal.int IntKind.i64 (↑c : Int), AVal.ro (Cont.ints IntKind.i64 xs) xs.length (1 : Nat), AVal.ro (Cont.ints IntKind.i64 ys) ys.length (1 : Nat)] (0 : Nat)), ((2 : Nat), AVal.ptr (0 : Nat) (0 : Nat) (0 : Nat)), ((3 : Nat), AVal.ptr (1 : Nat) (0 : Nat) (0 : Nat)), ((4 : Nat), AVal.int IntKind.i64 (↑k : Int)), ((5 : Nat), AVal.int IntKind.i64 (IntKind.i64.wrap ((↑i : Int) + (1 : Int))))] [{ c := BC.cells [AVal.int IntKind.i64 (0 : Int), AVal.int IntKind.i64 (0 : Int), AVal.nils, AVal.nils], ver := (0 : Nat) }, { c := BC.cells [AVal.int IntKind.i64 (↑c : Int), AVal.int IntKind.i64 (↑r : Int), AVal.own ((1 : Nat) + (1 : Nat) + (1 : Nat)) (0 : Nat) (List.take (1 : Nat) (List.drop (0 : Nat) ((List.replicate (1 : Nat) (0 : Int)).set (0 : Nat) (gz ys (IntKind.i64.wrap (IntKind.i64.wrap ((↑i : Int) * (↑c : Int)) + (↑k : Int))).toNat)))).length (0 : Nat) (1 : Nat), AVal.own ((1 : Nat) + (1 : Nat) + (1 : Nat) + (1 : Nat) + (1 : Nat)) (0 : Nat) (List.take (1 : Nat) (List.drop (0 : Nat) ((List.replicate (1 : Nat) (0 : Int)).set (0 : Nat) (gz xs (IntKind.i64.wrap (IntKind.i64.wrap ((↑i : Int) * (↑c : Int)) + (↑k : Int))).toNat)))).length (0 : Nat) (1 : Nat)], ver := (0 : Nat) }, { c := BC.typ (Cont.ints IntKind.i64 ((List.replicate (1 : Nat) (0 : Int)).set (0 : Nat) (gz ys (IntKind.i64.wrap (IntKind.i64.wrap ((↑i : Int) * (↑c : Int)) + (↑k : Int))).toNat))), ver := (0 : Nat) }, { c := BC.typ (Cont.ints IntKind.i64 (List.take (1 : Nat) (List.drop (0 : Nat) ((List.replicate (1 : Nat) (0 : Int)).set (0 : Nat) (gz ys (IntKind.i64.wrap (IntKind.i64.wrap ((↑i : Int) * (↑c : Int)) + (↑k : Int))).toNat))))), ver := (0 : Nat) }, { c := BC.typ (Cont.ints IntKind.i64 ((List.replicate (1 : Nat) (0 : Int)).set (0 : Nat) (gz xs (IntKind.i64.wrap (IntKind.i64.wrap ((↑i : Int) * (↑c : Int)) + (↑k : Int))).toNat))), ver := (0 : Nat) }, { c := BC.typ (Cont.ints IntKind.i64 (List.take (1 : Nat) (List.drop (0 : Nat) ((List.replicate (1 : Nat) (0 : Int)).set (0 : Nat) (gz xs (IntKind.i64.wrap (IntKind.i64.wrap ((↑i : Int) * (↑c : Int)) + (↑k : Int))).toNat))))), ver := (0 : Nat) }]) else none else none else none else none else none else none else none else none else L1 f n (mkS (70 : Nat) [((0 : Nat), AVal.rom [AVal.int IntKind.i64 (↑r : Int), AVal.int IntKind.i64 (↑c : Int), AVal.ro (Cont.ints IntKind.i64 xs) xs.length (1 : Nat), AVal.ro (Cont.ints IntKind.i64 ys) ys.length (1 : Nat)] (0 : Nat)), ((2 : Nat), AVal.ptr (0 : Nat) (0 : Nat) (0 : Nat)), ((3 : Nat), AVal.ptr (1 : Nat) (0 : Nat) (0 : Nat)), ((4 : Nat), AVal.int IntKind.i64 (IntKind.i64.wrap ((↑k : Int) + (1 : Int))))] [{ c := BC.cells [AVal.int IntKind.i64 (0 : Int), AVal.int IntKind.i64 (0 : Int), AVal.nils, AVal.nils], ver := (0 : Nat) }, { c := BC.cells [AVal.int IntKind.i64 (↑c : Int), AVal.int IntKind.i64 (↑r : Int), AVal.nils, AVal.nils], ver := (0 : Nat) }])) := by kernel_rfl
theorem round1 (r c : Nat) (xs ys : List Int) (az bz : List Int) (u w : Int) (q k : Nat) (f n : Nat) :
  L1 f (n + 1) (mkS 70 [(0, .rom [.int .i64 r, .int .i64 c, .ro (.ints .i64 xs) xs.length 1, .ro (.ints .i64 ys) ys.length 1] 0), (2, .ptr 0 0 0), (3, .ptr 1 0 0), (4, .int .i64 k)] [⟨.cells [.int .i64 0, .int .i64 0, .nils, .nils], 0⟩, ⟨.cells [.int .i64 c, .int .i64 r, .own 3 0 q 0 1, .own 5 0 q 0 1], 0⟩, ⟨.typ (.ints .i64 [u]), 0⟩, ⟨.typ (.ints .i64 az), 0⟩, ⟨.typ (.ints .i64 [w]), 0⟩, ⟨.typ (.ints .i64 bz), 0⟩])
  = (bif decide ((↑k : Int) < (↑c : Int)) then L2 f n f (mkS (70 : Nat) [((0 : Nat), AVal.rom [AVal.int IntKind.i64 (↑r : Int), AVal.int IntKind.i64 (↑c : Int), AVal.ro (Cont.ints IntKind.i64 xs) xs.length (1 : Nat), AVal.ro (Cont.ints IntKind.i64 ys) ys.length (1 : Nat)] (0 : Nat)), ((2 : Nat), AVal.ptr (0 : Nat) (0 : Nat) (0 : Nat)), ((3 : Nat), AVal.ptr (1 : Nat) (0 : Nat) (0 : Nat)), ((4 : Nat), AVal.int IntKind.i64 (↑k : Int)), ((5 : Nat), AVal.int IntKind.i64 (0 : Int))] [{ c := BC.cells [AVal.int IntKind.i64 (0 : Int), AVal.int IntKind.i64 (0 : Int), AVal.nils, AVal.nils], ver := (0 : Nat) }, { c := BC.cells [AVal.int IntKind.i64 (↑c : Int), AVal.int IntKind.i64 (↑r : Int), AVal.own (3 : Nat) (0 : Nat) q (0 : Nat) (1 : Nat), AVal.own (5 : Nat) (0 : Nat) q (0 : Nat) (1 : Nat)], ver := (0 : Nat) }, { c := BC.typ (Cont.ints IntKind.i64 [u]), ver := (0 : Nat) }, { c := BC.typ (Cont.ints IntKind.i64 az), ver := (0 : Nat) }, { c := BC.typ (Cont.ints IntKind.i64 [w]), ver := (0 : Nat) }, { c := BC.typ (Cont.ints IntKind.i64 bz), ver := (0 : Nat) }]) else bif true && true && (true && true && (true && true && (true && true && true))) then bif true && true && (true && true && (true && true && (true && true && true))) && true then some (AVal.agg [AVal.int IntKind.i64 (↑c : Int), AVal.int IntKind.i64 (↑r : Int), AVal.own (3 : Nat) (0 : Nat) q (0 : Nat) (1 : Nat), AVal.own (5 : Nat) (0 : Nat) q (0 : Nat) (1 : Nat)], [{ c := BC.cells [AVal.int IntKind.i64 (↑c : Int), AVal.int IntKind.i64 (↑r : Int), AVal.own (3 : Nat) (0 : Nat) q (0 : Nat) (1 : Nat), AVal.own (5 : Nat) (0 : Nat) q (0 : Nat) (1 : Nat)], ver := (0 : Nat) }, { c := BC.cells [AVal.int IntKind.i64 (↑c : Int), AVal.int IntKind.i64 (↑r : Int), AVal.own (3 : Nat) (0 : Nat) q (0 : Nat) (1 : Nat), AVal.own (5 : Nat) (0 : Nat) q (0 : Nat) (1 : Nat)], ver := (0 : Nat) }, { c := BC.typ (Cont.ints IntKind.i64 [u]), ver := (0 : Nat) }, { c := BC.typ (Cont.ints IntKind.i64 az), ver := (0 : Nat) }, { c := BC.typ (Cont.ints IntKind.i64 [w]), ver := (0 : Nat) }, { c := BC.typ (Cont.ints IntKind.i64 bz), ver := (0 : Nat) }]) else none else none) := by kernel_rfl
theorem round2 (r c : Nat) (xs ys : List Int) (az bz : List Int) (u w : Int) (q k i : Nat) (f n n2 : Nat) :
  L2 f n (n2 + 1) (mkS 70 [(0, .rom [.int .i64 r, .int .i64 c, .ro (.ints .i64 xs) xs.length 1, .ro (.ints .i64 ys) ys.length 1] 0), (2, .ptr 0 0 0), (3, .ptr 1 0 0), (4, .int .i64 k), (5, .int .i64 i)] [⟨.cells [.int .i64 0, .int .i64 0, .nils, .nils], 0⟩, ⟨.cells [.int .i64 c, .int .i64 r, .own 3 0 q 0 1, .own 5 0 q 0 1], 0⟩, ⟨.typ (.ints .i64 [u]), 0⟩, ⟨.typ (.ints .i64 az), 0⟩, ⟨.typ (.ints .i64 [w]), 0⟩, ⟨.typ (.ints .i64 bz), 0⟩])
  = (bif decide ((↑i : Int) < (↑r : Int)) then bif true && true then bif true && (decide ((0 : Int) ≤ IntKind.i64.wrap (IntKind.i64.wrap ((↑i : Int) * (↑c : Int)) + (↑k : Int))) && decide (IntKind.i64.wrap (IntKind.i64.wrap ((↑i : Int) * (↑c : Int)) + (↑k : Int)) < (↑ys.length : Int))) then bif decide ((IntKind.i64.wrap (IntKind.i64.wrap ((↑i : Int) * (↑c : Int)) + (↑k : Int))).toNat < ys.length) then bif (1 : Nat) == (1 : Nat) && (1 : Nat) == (1 : Nat) && (true && (true && true) && (true && true && (decide (q + (List.take (1 : Nat) (List.drop (0 : Nat) ((List.replicate (1 : Nat) (0 : Int)).set (0 : Nat) (gz ys (IntKind.i64.wrap (IntKind.i64.wrap ((↑i : Int) * (↑c : Int)) + (↑k : Int))).toNat)))).length ≤ (4611686018427387904 : Nat)) && decide ((q + (List.take (1 : Nat) (List.drop (0 : Nat) ((List.replicate (1 : Nat) (0 : Int)).set (0 : Nat) (gz ys (IntKind.i64.wrap (IntKind.i64.wrap ((↑i : Int) * (↑c : Int)) + (↑k : Int))).toNat)))).length) * (8 : Nat) ≤ (140737488355328 : Nat))))) then bif true && true then bif true && (decide ((0 : Int) ≤ IntKind.i64.wrap (IntKind.i64.wrap ((↑i : Int) * (↑c : Int)) + (↑k : Int))) && decide (IntKind.i64.wrap (IntKind.i64.wrap ((↑i : Int) * (↑c : Int)) + (↑k : Int)) < (↑xs.length : Int))) then bif decide ((IntKind.i64.wrap (IntKind.i64.wrap ((↑i : Int) * (↑c : Int)) + (↑k : Int))).toNat < xs.length) then bif (1 : Nat) == (1 : Nat) && (1 : Nat) == (1 : Nat) && (true && (true && true) && (true && true && (decide (q + (List.take (1 : Nat) (List.drop (0 : Nat) ((List.replicate (1 : Nat) (0 : Int)).set (0 : Nat) (gz xs (IntKind.i64.wrap (IntKind.i64.wrap ((↑i : Int) * (↑c : Int)) + (↑k : Int))).toNat)))).length ≤ (4611686018427387904 : Nat)) && decide ((q + (List.take (1 : Nat) (List.drop (0 : Nat) ((List.replicate (1 : Nat) (0 : Int)).set (0 : Nat) (gz xs (IntKind.i64.wrap (IntKind.i64.wrap ((↑i : Int) * (↑c : Int)) + (↑k : Int))).toNat)))).length) * (8 : Nat) ≤ (140737488355328 : Nat))))) then L2 f n n2 (mkS (70 : Nat) [((0 : Nat), AVal.rom [AVal.int IntKind.i64 (↑r : Int), AVal.int IntKind.i64 (↑c : Int), AVal.ro (Cont.ints IntKind.i64 xs) xs.length (1 : Nat), AVal.ro (Cont.ints IntKind.i64 ys) ys.length (1 : Nat)] (0 : Nat)), ((2 : Nat), AVal.ptr (0 : Nat) (0 : Nat) (0 : Nat)), ((3 : Nat), AVal.ptr (1 : Nat) (0 : Nat) (0 : Nat)), ((4 : Nat), AVal.int IntKind.i64 (↑k : Int)), ((5 : Nat), AVal.int IntKind.i64 (IntKind.i64.wrap ((↑i : Int) + (1 : Int))))] [{ c := BC.cells [AVal.int IntKind.i64 (0 : Int), AVal.int IntKind.i64 (0 : Int), AVal.nils, AVal.nils], ver := (0 : Nat) }, { c := BC.cells [AVal.int IntKind.i64 (↑c : Int), AVal.int IntKind.i64 (↑r : Int), AVal.own (3 : Nat) (0 : Nat) (q + (List.take (1 : Nat) (List.drop (0 : Nat) ((List.replicate (1 : Nat) (0 : Int)).set (0 : Nat) (gz ys (IntKind.i64.wrap (IntKind.i64.wrap ((↑i : Int) * (↑c : Int)) + (↑k : Int))).toNat)))).length) (0 : Nat) (1 : Nat), AVal.own (5 : Nat) (0 : Nat) (q + (List.take (1 : Nat) (List.drop (0 : Nat) ((List.replicate (1 : Nat) (0 : Int)).set (0 : Nat) (gz xs (IntKind.i64.wrap (IntKind.i64.wrap ((↑i : Int) * (↑c : Int)) + (↑k : Int))).toNat)))).length) (0 : Nat) (1 : Nat)], ver := (0 : Nat) }, { c := BC.typ (Cont.ints IntKind.i64 [u]), ver := (0 : Nat) }, { c := BC.typ (Cont.ints IntKind.i64 (List.take q az ++ List.take (1 : Nat) (List.drop (0 : Nat) ((List.replicate (1 : Nat) (0 : Int)).set (0 : Nat) (gz ys (IntKind.i64.wrap (IntKind.i64.wrap ((↑i : Int) * (↑c : Int)) + (↑k : Int))).toNat))))), ver := (0 : Nat) }, { c := BC.typ (Cont.ints IntKind.i64 [w]), ver := (0 : Nat) }, { c := BC.typ (Cont.ints IntKind.i64 (List.take q bz ++ List.take (1 : Nat) (List.drop (0 : Nat) ((List.replicate (1 : Nat) (0 : Int)).set (0 : Nat) (gz xs (IntKind.i64.wrap (IntKind.i64.wrap ((↑i : Int) * (↑c : Int)) + (↑k : Int))).toNat))))), ver := (0 : Nat) }]) else none else none else none else none else none else none else none else none else L1 f n (mkS (70 : Nat) [((0 : Nat), AVal.rom [AVal.int IntKind.i64 (↑r : Int), AVal.int IntKind.i64 (↑c : Int), AVal.ro (Cont.ints IntKind.i64 xs) xs.length (1 : Nat), AVal.ro (Cont.ints IntKind.i64 ys) ys.length (1 : Nat)] (0 : Nat)), ((2 : Nat), AVal.ptr (0 : Nat) (0 : Nat) (0 : Nat)), ((3 : Nat), AVal.ptr (1 : Nat) (0 : Nat) (0 : Nat)), ((4 : Nat), AVal.int IntKind.i64 (IntKind.i64.wrap ((↑k : Int) + (1 : Int))))] [{ c := BC.cells [AVal.int IntKind.i64 (0 : Int), AVal.int IntKind.i64 (0 : Int), AVal.nils, AVal.nils], ver := (0 : Nat) }, { c := BC.cells [AVal.int IntKind.i64 (↑c : Int), AVal.int IntKind.i64 (↑r : Int), AVal.own (3 : Nat) (0 : Nat) q (0 : Nat) (1 : Nat), AVal.own (5 : Nat) (0 : Nat) q (0 : Nat) (1 : Nat)], ver := (0 : Nat) }, { c := BC.typ (Cont.ints IntKind.i64 [u]), ver := (0 : Nat) }, { c := BC.typ (Cont.ints IntKind.i64 az), ver := (0 : Nat) }, { c := BC.typ (Cont.ints IntKind.i64 [w]), ver := (0 : Nat) }, { c := BC.typ (Cont.ints IntKind.i64 bz), ver := (0 : Nat) }])) := by kernel_rfl
theorem inner (r c : Nat) (xs ys : List Int) (u w : Int) (f n k : Nat) (hr : 1 ≤ r ∧ r ≤ 6) (hc : 1 ≤ c ∧ c ≤ 6) (hx : xs.length = r * c) (hy : ys.length = r * c) (hk : k < c) : ∀ (d i n2 : Nat), i + d = r → d < n2 → (k = 0 → 1 ≤ i) →
    L2 f n n2 (mkS 70 [(0, .rom [.int .i64 r, .int .i64 c, .ro (.ints .i64 xs) xs.length 1, .ro (.ints .i64 ys) ys.length 1] 0), (2, .ptr 0 0 0), (3, .ptr 1 0 0), (4, .int .i64 ((k : Nat) : Int)), (5, .int .i64 ((i : Nat) : Int))] [⟨.cells [.int .i64 0, .int .i64 0, .nils, .nils], 0⟩, ⟨.cells [.int .i64 c, .int .i64 r, .own 3 0 (k * r + i) 0 1, .own 5 0 (k * r + i) 0 1], 0⟩, ⟨.typ (.ints .i64 [u]), 0⟩, ⟨.typ (.ints .i64 (tn.pre r c ys k i)), 0⟩, ⟨.typ (.ints .i64 [w]), 0⟩, ⟨.typ (.ints .i64 (tn.pre r c xs k i)), 0⟩]) = L1 f n (mkS 70 [(0, .rom [.int .i64 r, .int .i64 c, .ro (.ints .i64 xs) xs.length 1, .ro (.ints .i64 ys) ys.length 1] 0), (2, .ptr 0 0 0), (3, .ptr 1 0 0), (4, .int .i64 (((k + 1) : Nat) : Int))] [⟨.cells [.int .i64 0, .int .i64 0, .nils, .nils], 0⟩, ⟨.cells [.int .i64 c, .int .i64 r, .own 3 0 ((k + 1) * r + 0) 0 1, .own 5 0 ((k + 1) * r + 0) 0 1], 0⟩, ⟨.typ (.ints .i64 [u]), 0⟩, ⟨.typ (.ints .i64 (tn.pre r c ys (k + 1) 0)), 0⟩, ⟨.typ (.ints .i64 [w]), 0⟩, ⟨.typ (.ints .i64 (tn.pre r c xs (k + 1) 0)), 0⟩]) := by
  intro d
  induction d with
  | zero =>
    intro i n2 hi hn hz
    obtain ⟨n2, rfl⟩ : ∃ k, n2 = k + 1 := ⟨n2 - 1, by omega⟩
    obtain rfl : i = r := by omega
    rw [round2]
    have wk : IntKind.i64.wrap ((k : Int) + 1) = ((k + 1 : Nat) : Int) := wrap_nat k (by omega)
    have e : k * i + i = (k + 1) * i + 0 := by rw [Nat.add_mul, Nat.one_mul]; rfl
    simp only [Int.lt_irrefl, wk, tn.pre_next, e, decide_true, decide_false, Bool.and_self, Bool.or_self, Bool.and_true, Bool.true_and, Bool.and_false, Bool.false_and, Bool.or_true, Bool.true_or, Bool.or_false, Bool.false_or, Bool.not_true, Bool.not_false, cond_true, cond_false]
  | succ d ih =>
    intro i n2 hi' hn hz
    obtain ⟨n2, rfl⟩ : ∃ k, n2 = k + 1 := ⟨n2 - 1, by omega⟩
    have hi : i < r := by omega
    have hlt := gm.ix_lt (R := r) (C := c) hi hk
    have h36 := gm.le_36 hr.2 hc.2
    have i0 : (0 : Int) ≤ (i : Int) := Int.natCast_nonneg _
    have i1 : (i : Int) ≤ 100 := by omega
    have i2 : (i : Int) < (r : Int) := by omega
    have k0 : (0 : Int) ≤ (k : Int) := Int.natCast_nonneg _
    have k1 : (k : Int) ≤ 100 := by omega
    have c0 : (0 : Int) ≤ (c : Int) := Int.natCast_nonneg _
    have c1 : (c : Int) ≤ 100 := by omega
    have em : (i : Int) * (c : Int) = ((i * c : Nat) : Int) := by simp
    have ee : ((i * c : Nat) : Int) + (k : Int) = ((i * c + k : Nat) : Int) := by simp
    have lx : ((i * c + k : Nat) : Int) < (xs.length : Int) := by omega
    have ly : ((i * c + k : Nat) : Int) < (ys.length : Int) := by omega
    have lx2 : i * c + k < xs.length := by omega
    have ly2 : i * c + k < ys.length := by omega
    have p0 : (0 : Int) ≤ ((i * c + k : Nat) : Int) := Int.natCast_nonneg _
    have w1 : IntKind.i64.wrap ((i * c : Nat) : Int) = ((i * c : Nat) : Int) := IntWalk.i64_in _ (by omega)
    have w2 : IntKind.i64.wrap ((i * c + k : Nat) : Int) = ((i * c + k : Nat) : Int) := IntWalk.i64_in _ (by omega)
    have wi : IntKind.i64.wrap ((i : Int) + 1) = ((i + 1 : Nat) : Int) := wrap_nat i (by omega)
    have kr : k * r + i < 36 + 1 := by
      have := gm.ix_lt (R := c) (C := r) hk hi
      rw [Nat.mul_comm c r] at this
      omega
    have s1 : k * r + i + 1 ≤ 4611686018427387904 := by omega
    have s2 : (k * r + i + 1) * 8 ≤ 140737488355328 := by omega
    have tx : (tn.pre r c xs k i).take (k * r + i) = tn.pre r c xs k i := List.take_of_length_le (by rw [tn.pre_length]; omega)
    have ty : (tn.pre r c ys k i).take (k * r + i) = tn.pre r c ys k i := List.take_of_length_le (by rw [tn.pre_length]; omega)
    have hih := ih (i + 1) n2 (by omega) (by omega) (by omega)
    rw [round2]
    simp only [tx, ty, s1, s2, tn.pre_succ, em, w1, ee, w2, wi, lx, ly, lx2, ly2, p0, i0, i1, i2, k0, k1, c0, c1, Int.toNat_natCast, one_set, List.length_singleton, Nat.zero_add, List.replicate_zero, List.take_nil, List.nil_append, Nat.reduceBEq, Nat.lt_irrefl, Nat.le_refl, List.take_length, and_self, decide_true, decide_false, Bool.and_self, Bool.or_self, Bool.and_true, Bool.true_and, Bool.and_false, Bool.false_and, Bool.or_true, Bool.true_or, Bool.or_false, Bool.false_or, Bool.not_true, Bool.not_false, cond_true, cond_false]
    exact hih
theorem outer (r c : Nat) (xs ys : List Int) (u w : Int) (f : Nat) (hr : 1 ≤ r ∧ r ≤ 6) (hc : 1 ≤ c ∧ c ≤ 6) (hx : xs.length = r * c) (hy : ys.length = r * c) (hf : r < f) : ∀ (d k n : Nat), k + d = c → d < n → 1 ≤ k →
    L1 f n (mkS 70 [(0, .rom [.int .i64 r, .int .i64 c, .ro (.ints .i64 xs) xs.length 1, .ro (.ints .i64 ys) ys.length 1] 0), (2, .ptr 0 0 0), (3, .ptr 1 0 0), (4, .int .i64 ((k : Nat) : Int))] [⟨.cells [.int .i64 0, .int .i64 0, .nils, .nils], 0⟩, ⟨.cells [.int .i64 c, .int .i64 r, .own 3 0 (k * r + 0) 0 1, .own 5 0 (k * r + 0) 0 1], 0⟩, ⟨.typ (.ints .i64 [u]), 0⟩, ⟨.typ (.ints .i64 (tn.pre r c ys k 0)), 0⟩, ⟨.typ (.ints .i64 [w]), 0⟩, ⟨.typ (.ints .i64 (tn.pre r c xs k 0)), 0⟩]) = some (.agg [.int .i64 c, .int .i64 r, .own 3 0 (c * r + 0) 0 1, .own 5 0 (c * r + 0) 0 1], [⟨.cells [.int .i64 c, .int .i64 r, .own 3 0 (c * r + 0) 0 1, .own 5 0 (c * r + 0) 0 1], 0⟩, ⟨.cells [.int .i64 c, .int .i64 r, .own 3 0 (c * r + 0) 0 1, .own 5 0 (c * r + 0) 0 1], 0⟩, ⟨.typ (.ints .i64 [u]), 0⟩, ⟨.typ (.ints .i64 (tn.sv r c ys)), 0⟩, ⟨.typ (.ints .i64 [w]), 0⟩, ⟨.typ (.ints .i64 (tn.sv r c xs)), 0⟩]) := by
  intro d
  induction d with
  | zero =>
    intro k n hk hn h1
    obtain ⟨n, rfl⟩ : ∃ k, n = k + 1 := ⟨n - 1, by omega⟩
    obtain rfl : k = c := by omega
    rw [round1]
    simp only [Int.lt_irrefl, tn.pre_all, decide_true, decide_false, Bool.and_self, Bool.or_self, Bool.and_true, Bool.true_and, Bool.and_false, Bool.false_and, Bool.or_true, Bool.true_or, Bool.or_false, Bool.false_or, Bool.not_true, Bool.not_false, cond_true, cond_false]
  | succ d ih =>
    intro k n hk hn h1
    obtain ⟨n, rfl⟩ : ∃ k, n = k + 1 := ⟨n - 1, by omega⟩
    have hkc : k < c := by omega
    have hkc' : (k : Int) < (c : Int) := by omega
    rw [round1]
    simp only [hkc', decide_true, cond_true]
    have hin := inner r c xs ys u w f n k hr hc hx hy hkc r 0 f (by omega) hf
    have hout := ih (k + 1) n (by omega) (by omega) (by omega)
    exact (hin (by omega)).trans hout
theorem all (r c : Nat) (xs ys : List Int) (f : Nat) (hr : 1 ≤ r ∧ r ≤ 6) (hc : 1 ≤ c ∧ c ≤ 6) (hx : xs.length = r * c) (hy : ys.length = r * c) (hf : c + r < f) : ∃ u w,
    L1 f f (mkS 70 [(0, .rom [.int .i64 r, .int .i64 c, .ro (.ints .i64 xs) xs.length 1, .ro (.ints .i64 ys) ys.length 1] 0), (2, .ptr 0 0 0), (3, .ptr 1 0 0), (4, .int .i64 0)] [⟨.cells [.int .i64 0, .int .i64 0, .nils, .nils], 0⟩, ⟨.cells [.int .i64 c, .int .i64 r, .nils, .nils], 0⟩]) = some (.agg [.int .i64 c, .int .i64 r, .own 3 0 (c * r + 0) 0 1, .own 5 0 (c * r + 0) 0 1], [⟨.cells [.int .i64 c, .int .i64 r, .own 3 0 (c * r + 0) 0 1, .own 5 0 (c * r + 0) 0 1], 0⟩, ⟨.cells [.int .i64 c, .int .i64 r, .own 3 0 (c * r + 0) 0 1, .own 5 0 (c * r + 0) 0 1], 0⟩, ⟨.typ (.ints .i64 [u]), 0⟩, ⟨.typ (.ints .i64 (tn.sv r c ys)), 0⟩, ⟨.typ (.ints .i64 [w]), 0⟩, ⟨.typ (.ints .i64 (tn.sv r c xs)), 0⟩]) := by
  obtain ⟨f, rfl⟩ : ∃ k, f = k + 1 := ⟨f - 1, by omega⟩
  refine ⟨gz ys (0 * c + 0), gz xs (0 * c + 0), ?_⟩
  have hkc' : ((0 : Nat) : Int) < (c : Int) := by omega
  have hz := round1z r c xs ys 0 (f + 1) f
  simp only [hkc', decide_true, cond_true] at hz
  have hz2 : L2 (f + 1) f (f + 1) (mkS 70 [(0, .rom [.int .i64 r, .int .i64 c, .ro (.ints .i64 xs) xs.length 1, .ro (.ints .i64 ys) ys.length 1] 0), (2, .ptr 0 0 0), (3, .ptr 1 0 0), (4, .int .i64 ((0 : Nat) : Int)), (5, .int .i64 0)] [⟨.cells [.int .i64 0, .int .i64 0, .nils, .nils], 0⟩, ⟨.cells [.int .i64 c, .int .i64 r, .nils, .nils], 0⟩]) = L2 (f + 1) f f (mkS 70 [(0, .rom [.int .i64 r, .int .i64 c, .ro (.ints .i64 xs) xs.length 1, .ro (.ints .i64 ys) ys.length 1] 0), (2, .ptr 0 0 0), (3, .ptr 1 0 0), (4, .int .i64 ((0 : Nat) : Int)), (5, .int .i64 ((1 : Nat) : Int))] [⟨.cells [.int .i64 0, .int .i64 0, .nils, .nils], 0⟩, ⟨.cells [.int .i64 c, .int .i64 r, .own 3 0 1 0 1, .own 5 0 1 0 1], 0⟩, ⟨.typ (.ints .i64 [gz ys (0 * c + 0)]), 0⟩, ⟨.typ (.ints .i64 [gz ys (0 * c + 0)]), 0⟩, ⟨.typ (.ints .i64 [gz xs (0 * c + 0)]), 0⟩, ⟨.typ (.ints .i64 [gz xs (0 * c + 0)]), 0⟩]) := by
    obtain ⟨k, hk0⟩ : ∃ k : Nat, k = 0 := ⟨0, rfl⟩
    obtain ⟨i, hi0⟩ : ∃ i : Nat, i = 0 := ⟨0, rfl⟩
    have hk : k < c := by omega
    have hi : i < r := by omega
    have hlt := gm.ix_lt (R := r) (C := c) hi hk
    have h36 := gm.le_36 hr.2 hc.2
    have i0 : (0 : Int) ≤ (i : Int) := Int.natCast_nonneg _
    have i1 : (i : Int) ≤ 100 := by omega
    have i2 : (i : Int) < (r : Int) := by omega
    have k0 : (0 : Int) ≤ (k : Int) := Int.natCast_nonneg _
    have k1 : (k : Int) ≤ 100 := by omega
    have c0 : (0 : Int) ≤ (c : Int) := Int.natCast_nonneg _
    have c1 : (c : Int) ≤ 100 := by omega
    have em : (i : Int) * (c : Int) = ((i * c : Nat) : Int) := by simp
    have ee : ((i * c : Nat) : Int) + (k : Int) = ((i * c + k : Nat) : Int) := by simp
    have lx : ((i * c + k : Nat) : Int) < (xs.length : Int) := by omega
    have ly : ((i * c + k : Nat) : Int) < (ys.length : Int) := by omega
    have lx2 : i * c + k < xs.length := by omega
    have ly2 : i * c + k < ys.length := by omega
    have p0 : (0 : Int) ≤ ((i * c + k : Nat) : Int) := Int.natCast_nonneg _
    have w1 : IntKind.i64.wrap ((i * c : Nat) : Int) = ((i * c : Nat) : Int) := IntWalk.i64_in _ (by omega)
    have w2 : IntKind.i64.wrap ((i * c + k : Nat) : Int) = ((i * c + k : Nat) : Int) := IntWalk.i64_in _ (by omega)
    have wi : IntKind.i64.wrap ((i : Int) + 1) = ((i + 1 : Nat) : Int) := wrap_nat i (by omega)
    have hzz := round2z r c xs ys k i (f + 1) f f
    simp only [em, w1, ee, w2, wi, lx, ly, lx2, ly2, p0, i0, i1, i2, k0, k1, c0, c1, Int.toNat_natCast, one_set, List.length_singleton, Nat.zero_add, List.replicate_zero, List.take_nil, List.nil_append, Nat.reduceBEq, Nat.lt_irrefl, Nat.le_refl, List.take_length, and_self, decide_true, decide_false, Bool.and_self, Bool.or_self, Bool.and_true, Bool.true_and, Bool.and_false, Bool.false_and, Bool.or_true, Bool.true_or, Bool.or_false, Bool.false_or, Bool.not_true, Bool.not_false, cond_true, cond_false, Nat.reduceMul, Nat.reduceLeDiff, Nat.reduceLT, Nat.zero_lt_one, Nat.reduceAdd] at hzz
    subst hk0 hi0
    exact hzz
  have hin := inner r c xs ys (gz ys (0 * c + 0)) (gz xs (0 * c + 0)) (f + 1) f 0 hr hc hx hy (by omega) (r - 1) 1 f (by omega) (by omega) (fun _ => Nat.le_refl _)
  have hout := outer r c xs ys (gz ys (0 * c + 0)) (gz xs (0 * c + 0)) (f + 1) hr hc hx hy (by omega) (c - 1) 1 f (by omega) (by omega) (Nat.le_refl _)
  have e1 : ∀ zs, tn.pre r c zs 0 1 = [gz zs (0 * c + 0)] := fun zs => by rw [← tn.pre_succ, tn.pre_zero]; rfl
  have e2 : 0 * r + 1 = 1 := by omega
  rw [e1, e1, e2] at hin
  exact hz.trans (hz2.trans (hin.trans hout))
theorem run : ∀ args v new, R args = some (true, v, new) → ∃ fuel, regc [3, 5] (runFn Try.prog (orc []) hd Dr.std none fuel (bodyOf Try.f67) 70 [.cell 2 56] args []) = some (v, new) := by
  intro args v new h
  unfold R at h
  split at h
  · rename_i r c xs ma ys mb
    simp only [Option.some.injEq, Prod.mk.injEq, Bool.and_eq_true, decide_eq_true_eq, Bool.not_eq_true'] at h
    obtain ⟨⟨⟨rfl, rfl⟩, hv⟩, rfl, rfl⟩ := h
    obtain ⟨r, c, rfl, rfl, hr, hc, hx, hy, vx, vy⟩ := gm.valid hv
    obtain ⟨F, hF⟩ : ∃ F : Nat, F = 100 := ⟨100, rfl⟩
    refine ⟨F, ?_⟩
    rw [start]
    obtain ⟨u, w, hl⟩ := all r c xs ys F hr hc hx hy (by omega)
    have e : ((c : Int) * (r : Int)).toNat = c * r + 0 := by
      have : (c : Int) * (r : Int) = ((c * r : Nat) : Int) := by simp
      rw [this]; rfl
    rw [e]
    exact (congrArg (regc [3, 5]) hl).trans rfl
  · cases h
theorem ok : EntOk Try.prog ⟨67, R⟩ :=
  ent_okAG (ks := [3, 5]) mixed (A := (orc [])) (orc_ok (by simp)) Try.func67 (by kernel_rfl) (by kernel_rfl) (n := 70) (ts := [.cell 2 56]) (hd := hd) (dr := Dr.std) (cut := none) (by kernel_rfl) (by kernel_rfl) (by kernel_rfl) run
end l02Turn

namespace gTurned
def R : List AVal → Option (Bool × AVal × List Blk)
  | [.agg [.int .i64 r, .int .i64 c, .ro (.ints .i64 xs) ma 1, .ro (.ints .i64 ys) mb 1]] => some (decide (ma = xs.length ∧ mb = ys.length) && gm.sp r c xs ys, .agg [.int .i64 c, .int .i64 r, .own 0 0 (c * r).toNat 0 1, .own 1 0 (c * r).toNat 0 1], [⟨.typ (.ints .i64 (tn.sv r.toNat c.toNat ys)), 0⟩, ⟨.typ (.ints .i64 (tn.sv r.toNat c.toNat xs)), 0⟩])
  | _ => none
def hd : Nat → Head := fun i => bif eqN i 2 then ⟨[1, 2, 3, 4, 12, 13, 17, 18], some 7⟩ else ⟨[1, 2, 3, 12, 13], some 7⟩
noncomputable def L1 (f n : Nat) (s : State) := loopAt Try.prog (orc [⟨89, gA.R⟩, ⟨88, gB.R⟩]) hd Dr.std 0 f (bodyOf Try.f70) 0 [true, true, false, true] (retK Try.prog [.cell 2 56] 0 none) n s
noncomputable def L2 (f n n2 : Nat) (s : State) := loopAt Try.prog (orc [⟨89, gA.R⟩, ⟨88, gB.R⟩]) hd Dr.std 0 f (bodyAt (bodyOf Try.f70) [true, true, false, true]) (curAt (bodyOf Try.f70) 0 [true, true, false, true]) [true, true, false, true, true] (iterK (normE 0 (hd (curAt (bodyOf Try.f70) 0 [true, true, false, true]))) (L1 f n) (contAt Try.prog (orc [⟨89, gA.R⟩, ⟨88, gB.R⟩]) hd Dr.std 0 f (bodyOf Try.f70) 0 [true, true, false, true] (retK Try.prog [.cell 2 56] 0 none))) n2 s
theorem start (r c : Nat) (xs ys : List Int) (f : Nat) :
  runFn Try.prog (orc [⟨89, gA.R⟩, ⟨88, gB.R⟩]) hd Dr.std none f (bodyOf Try.f70) 42 [.cell 2 56] [.agg [.int .i64 r, .int .i64 c, .ro (.ints .i64 xs) xs.length 1, .ro (.ints .i64 ys) ys.length 1]] []
  = (bif true && true then bif true && true then bif true && true then L1 f f (mkS (42 : Nat) [((1 : Nat), AVal.ptr (0 : Nat) (0 : Nat) (0 : Nat)), ((2 : Nat), AVal.ptr (1 : Nat) (0 : Nat) (0 : Nat)), ((3 : Nat), AVal.ptr (2 : Nat) (0 : Nat) (0 : Nat)), ((12 : Nat), AVal.int IntKind.i64 (↑c : Int)), ((13 : Nat), AVal.int IntKind.i64 (0 : Int))] [{ c := BC.cells [AVal.int IntKind.i64 (↑r : Int), AVal.int IntKind.i64 (↑c : Int), AVal.ro (Cont.ints IntKind.i64 xs) xs.length (1 : Nat), AVal.ro (Cont.ints IntKind.i64 ys) ys.length (1 : Nat)], ver := (0 : Nat) }, { c := BC.cells [AVal.int IntKind.i64 (0 : Int), AVal.int IntKind.i64 (0 : Int), AVal.nils, AVal.nils], ver := (0 : Nat) }, { c := BC.cells [AVal.int IntKind.i64 (↑c : Int), AVal.int IntKind.i64 (↑r : Int), AVal.nils, AVal.nils], ver := (0 : Nat) }]) else none else none else none) := by kernel_rfl
theorem round1z (r c : Nat) (xs ys : List Int) (k : Nat) (f n : Nat) :
  L1 f (n + 1) (mkS 42 [(1, .ptr 0 0 0), (2, .ptr 1 0 0), (3, .ptr 2 0 0), (12, .int .i64 c), (13, .int .i64 k)] [⟨.cells [.int .i64 r, .int .i64 c, .ro (.ints .i64 xs) xs.length 1, .ro (.ints .i64 ys) ys.length 1], 0⟩, ⟨.cells [.int .i64 0, .int .i64 0, .nils, .nils], 0⟩, ⟨.cells [.int .i64 c, .int .i64 r, .nils, .nils], 0⟩])
  = (bif decide ((↑k : Int) < (↑c : Int)) then bif true && true then L2 f n f (mkS (42 : Nat) [((1 : Nat), AVal.ptr (0 : Nat) (0 : Nat) (0 : Nat)), ((2 : Nat), AVal.ptr (1 : Nat) (0 : Nat) (0 : Nat)), ((3 : Nat), AVal.ptr (2 : Nat) (0 : Nat) (0 : Nat)), ((4 : Nat), AVal.int IntKind.i64 (↑k : Int)), ((12 : Nat), AVal.int IntKind.i64 (↑c : Int)), ((13 : Nat), AVal.int IntKind.i64 (↑k : Int)), ((17 : Nat), AVal.int IntKind.i64 (↑r : Int)), ((18 : Nat), AVal.int IntKind.i64 (0 : Int))] [{ c := BC.cells [AVal.int IntKind.i64 (↑r : Int), AVal.int IntKind.i64 (↑c : Int), AVal.ro (Cont.ints IntKind.i64 xs) xs.length (1 : Nat), AVal.ro (Cont.ints IntKind.i64 ys) ys.length (1 : Nat)], ver := (0 : Nat) }, { c := BC.cells [AVal.int IntKind.i64 (0 : Int), AVal.int IntKind.i64 (0 : Int), AVal.nils, AVal.nils], ver := (0 : Nat) }, { c := BC.cells [AVal.int IntKind.i64 (↑c : Int), AVal.int IntKind.i64 (↑r : Int), AVal.nils, AVal.nils], ver := (0 : Nat) }]) else none else bif true && true && (true && true && (true && true && (true && true && true))) then bif true && true && (true && true && (true && true && (true && true && true))) && true then some (AVal.agg [AVal.int IntKind.i64 (↑c : Int), AVal.int IntKind.i64 (↑r : Int), AVal.nils, AVal.nils], [{ c := BC.cells [AVal.int IntKind.i64 (↑r : Int), AVal.int IntKind.i64 (↑c : Int), AVal.ro (Cont.ints IntKind.i64 xs) xs.length (1 : Nat), AVal.ro (Cont.ints IntKind.i64 ys) ys.length (1 : Nat)], ver := (0 : Nat) }, { c := BC.cells [AVal.int IntKind.i64 (↑c : Int), AVal.int IntKind.i64 (↑r : Int), AVal.nils, AVal.nils], ver := (0 : Nat) }, { c := BC.cells [AVal.int IntKind.i64 (↑c : Int), AVal.int IntKind.i64 (↑r : Int), AVal.nils, AVal.nils], ver := (0 : Nat) }]) else none else none) := by kernel_rfl
theorem round2z (r c : Nat) (xs ys : List Int) (k i : Nat) (f n n2 : Nat) :
  L2 f n (n2 + 1) (mkS 42 [(1, .ptr 0 0 0), (2, .ptr 1 0 0), (3, .ptr 2 0 0), (4, .int .i64 k), (12, .int .i64 c), (13, .int .i64 k), (17, .int .i64 r), (18, .int .i64 i)] [⟨.cells [.int .i64 r, .int .i64 c, .ro (.ints .i64 xs) xs.length 1, .ro (.ints .i64 ys) ys.length 1], 0⟩, ⟨.cells [.int .i64 0, .int .i64 0, .nils, .nils], 0⟩, ⟨.cells [.int .i64 c, .int .i64 r, .nils, .nils], 0⟩])
  = (bif decide ((↑i : Int) < (↑r : Int)) then bif true && true then bif true && true && (true && true && (true && true && (true && true && true))) then bif decide (xs.length = xs.length ∧ ys.length = ys.length ∧ (0 : Int) ≤ (↑i : Int) ∧ (0 : Int) ≤ (↑k : Int) ∧ (↑i : Int) ≤ (100 : Int) ∧ (↑k : Int) ≤ (100 : Int) ∧ (0 : Int) ≤ (↑c : Int) ∧ (↑c : Int) ≤ (100 : Int) ∧ (↑i : Int) * (↑c : Int) + (↑k : Int) < (↑ys.length : Int)) && (true && (true && (true && (true && true))) && (true && (true && true)) || true && true) then bif (1 : Nat) == (1 : Nat) && (1 : Nat) == (1 : Nat) && (true && true && (decide ((0 : Nat) < (List.take (1 : Nat) (List.drop (0 : Nat) ((List.replicate (1 : Nat) (0 : Int)).set (0 : Nat) (gz ys ((↑i : Int) * (↑c : Int) + (↑k : Int)).toNat)))).length) && (decide ((List.take (1 : Nat) (List.drop (0 : Nat) ((List.replicate (1 : Nat) (0 : Int)).set (0 : Nat) (gz ys ((↑i : Int) * (↑c : Int) + (↑k : Int)).toNat)))).length ≤ (4611686018427387904 : Nat)) && decide ((List.take (1 : Nat) (List.drop (0 : Nat) ((List.replicate (1 : Nat) (0 : Int)).set (0 : Nat) (gz ys ((↑i : Int) * (↑c : Int) + (↑k : Int)).toNat)))).length * (8 : Nat) ≤ (140737488355328 : Nat))))) then bif true && true then bif true && true && (true && true && (true && true && (true && true && true))) then bif decide (xs.length = xs.length ∧ ys.length = ys.length ∧ (0 : Int) ≤ (↑i : Int) ∧ (0 : Int) ≤ (↑k : Int) ∧ (↑i : Int) ≤ (100 : Int) ∧ (↑k : Int) ≤ (100 : Int) ∧ (0 : Int) ≤ (↑c : Int) ∧ (↑c : Int) ≤ (100 : Int) ∧ (↑i : Int) * (↑c : Int) + (↑k : Int) < (↑xs.length : Int)) && (true && (true && (true && (true && true))) && (true && (true && true)) || true && true) then bif (1 : Nat) == (1 : Nat) && (1 : Nat) == (1 : Nat) && (true && true && (decide ((0 : Nat) < (List.take (1 : Nat) (List.drop (0 : Nat) ((List.replicate (1 : Nat) (0 : Int)).set (0 : Nat) (gz xs ((↑i : Int) * (↑c : Int) + (↑k : Int)).toNat)))).length) && (decide ((List.take (1 : Nat) (List.drop (0 : Nat) ((List.replicate (1 : Nat) (0 : Int)).set (0 : Nat) (gz xs ((↑i : Int) * (↑c : Int) + (↑k : Int)).toNat)))).length ≤ (4611686018427387904 : Nat)) && decide ((List.take (1 : Nat) (List.drop (0 : Nat) ((List.replicate (1 : Nat) (0 : Int)).set (0 : Nat) (gz xs ((↑i : Int) * (↑c : Int) + (↑k : Int)).toNat)))).length * (8 : Nat) ≤ (140737488355328 : Nat))))) then L2 f n n2 (mkS (42 : Nat) [((1 : Nat), AVal.ptr (0 : Nat) (0 : Nat) (0 : Nat)), ((2 : Nat), AVal.ptr (1 : Nat) (0 : Nat) (0 : Nat)), ((3 : Nat), AVal.ptr (2 : Nat) (0 : Nat) (0 : Nat)), ((4 : Nat), AVal.int IntKind.i64 (↑k : Int)), ((12 : Nat), AVal.int IntKind.i64 (↑c : Int)), ((13 : Nat), AVal.int IntKind.i64 (↑k : Int)), ((17 : Nat), AVal.int IntKind.i64 (↑r : Int)), ((18 : Nat), AVal.int IntKind.i64 (IntKind.i64.wrap ((↑i : Int) + (1 : Int))))] [{ c := BC.cells [AVal.int IntKind.i64 (↑r : Int), AVal.int IntKind.i64 (↑c : Int), AVal.ro (Cont.ints IntKind.i64 xs) xs.length (1 : Nat), AVal.ro (Cont.ints IntKind.i64 ys) ys.length (1 : Nat)], ver := (0 : Nat) }, { c := BC.cells [AVal.int IntKind.i64 (0 : Int), AVal.int IntKind.i64 (0 : Int), AVal.nils, AVal.nils], ver := (0 : Nat) }, { c := BC.cells [AVal.int IntKind.i64 (↑c : Int), AVal.int IntKind.i64 (↑r : Int), AVal.own ((1 : Nat) + (1 : Nat) + (1 : Nat) + (1 : Nat)) (0 : Nat) (List.take (1 : Nat) (List.drop (0 : Nat) ((List.replicate (1 : Nat) (0 : Int)).set (0 : Nat) (gz ys ((↑i : Int) * (↑c : Int) + (↑k : Int)).toNat)))).length (0 : Nat) (1 : Nat), AVal.own ((1 : Nat) + (1 : Nat) + (1 : Nat) + (1 : Nat) + (1 : Nat) + (1 : Nat)) (0 : Nat) (List.take (1 : Nat) (List.drop (0 : Nat) ((List.replicate (1 : Nat) (0 : Int)).set (0 : Nat) (gz xs ((↑i : Int) * (↑c : Int) + (↑k : Int)).toNat)))).length (0 : Nat) (1 : Nat)], ver := (0 : Nat) }, { c := BC.typ (Cont.ints IntKind.i64 ((List.replicate (1 : Nat) (0 : Int)).set (0 : Nat) (gz ys ((↑i : Int) * (↑c : Int) + (↑k : Int)).toNat))), ver := (0 : Nat) }, { c := BC.typ (Cont.ints IntKind.i64 (List.take (1 : Nat) (List.drop (0 : Nat) ((List.replicate (1 : Nat) (0 : Int)).set (0 : Nat) (gz ys ((↑i : Int) * (↑c : Int) + (↑k : Int)).toNat))))), ver := (0 : Nat) }, { c := BC.typ (Cont.ints IntKind.i64 ((List.replicate (1 : Nat) (0 : Int)).set (0 : Nat) (gz xs ((↑i : Int) * (↑c : Int) + (↑k : Int)).toNat))), ver := (0 : Nat) }, { c := BC.typ (Cont.ints IntKind.i64 (List.take (1 : Nat) (List.drop (0 : Nat) ((List.replicate (1 : Nat) (0 : Int)).set (0 : Nat) (gz xs ((↑i : Int) * (↑c : Int) + (↑k : Int)).toNat))))), ver := (0 : Nat) }]) else none else none else none else none else none else none else none else none else L1 f n (mkS (42 : Nat) [((1 : Nat), AVal.ptr (0 : Nat) (0 : Nat) (0 : Nat)), ((2 : Nat), AVal.ptr (1 : Nat) (0 : Nat) (0 : Nat)), ((3 : Nat), AVal.ptr (2 : Nat) (0 : Nat) (0 : Nat)), ((12 : Nat), AVal.int IntKind.i64 (↑c : Int)), ((13 : Nat), AVal.int IntKind.i64 (IntKind.i64.wrap ((↑k : Int) + (1 : Int))))] [{ c := BC.cells [AVal.int IntKind.i64 (↑r : Int), AVal.int IntKind.i64 (↑c : Int), AVal.ro (Cont.ints IntKind.i64 xs) xs.length (1 : Nat), AVal.ro (Cont.ints IntKind.i64 ys) ys.length (1 : Nat)], ver := (0 : Nat) }, { c := BC.cells [AVal.int IntKind.i64 (0 : Int), AVal.int IntKind.i64 (0 : Int), AVal.nils, AVal.nils], ver := (0 : Nat) }, { c := BC.cells [AVal.int IntKind.i64 (↑c : Int), AVal.int IntKind.i64 (↑r : Int), AVal.nils, AVal.nils], ver := (0 : Nat) }])) := by kernel_rfl
theorem round1 (r c : Nat) (xs ys : List Int) (az bz : List Int) (u w : Int) (q k : Nat) (f n : Nat) :
  L1 f (n + 1) (mkS 42 [(1, .ptr 0 0 0), (2, .ptr 1 0 0), (3, .ptr 2 0 0), (12, .int .i64 c), (13, .int .i64 k)] [⟨.cells [.int .i64 r, .int .i64 c, .ro (.ints .i64 xs) xs.length 1, .ro (.ints .i64 ys) ys.length 1], 0⟩, ⟨.cells [.int .i64 0, .int .i64 0, .nils, .nils], 0⟩, ⟨.cells [.int .i64 c, .int .i64 r, .own 4 0 q 0 1, .own 6 0 q 0 1], 0⟩, ⟨.typ (.ints .i64 [u]), 0⟩, ⟨.typ (.ints .i64 az), 0⟩, ⟨.typ (.ints .i64 [w]), 0⟩, ⟨.typ (.ints .i64 bz), 0⟩])
  = (bif decide ((↑k : Int) < (↑c : Int)) then bif true && true then L2 f n f (mkS (42 : Nat) [((1 : Nat), AVal.ptr (0 : Nat) (0 : Nat) (0 : Nat)), ((2 : Nat), AVal.ptr (1 : Nat) (0 : Nat) (0 : Nat)), ((3 : Nat), AVal.ptr (2 : Nat) (0 : Nat) (0 : Nat)), ((4 : Nat), AVal.int IntKind.i64 (↑k : Int)), ((12 : Nat), AVal.int IntKind.i64 (↑c : Int)), ((13 : Nat), AVal.int IntKind.i64 (↑k : Int)), ((17 : Nat), AVal.int IntKind.i64 (↑r : Int)), ((18 : Nat), AVal.int IntKind.i64 (0 : Int))] [{ c := BC.cells [AVal.int IntKind.i64 (↑r : Int), AVal.int IntKind.i64 (↑c : Int), AVal.ro (Cont.ints IntKind.i64 xs) xs.length (1 : Nat), AVal.ro (Cont.ints IntKind.i64 ys) ys.length (1 : Nat)], ver := (0 : Nat) }, { c := BC.cells [AVal.int IntKind.i64 (0 : Int), AVal.int IntKind.i64 (0 : Int), AVal.nils, AVal.nils], ver := (0 : Nat) }, { c := BC.cells [AVal.int IntKind.i64 (↑c : Int), AVal.int IntKind.i64 (↑r : Int), AVal.own (4 : Nat) (0 : Nat) q (0 : Nat) (1 : Nat), AVal.own (6 : Nat) (0 : Nat) q (0 : Nat) (1 : Nat)], ver := (0 : Nat) }, { c := BC.typ (Cont.ints IntKind.i64 [u]), ver := (0 : Nat) }, { c := BC.typ (Cont.ints IntKind.i64 az), ver := (0 : Nat) }, { c := BC.typ (Cont.ints IntKind.i64 [w]), ver := (0 : Nat) }, { c := BC.typ (Cont.ints IntKind.i64 bz), ver := (0 : Nat) }]) else none else bif true && true && (true && true && (true && true && (true && true && true))) then bif true && true && (true && true && (true && true && (true && true && true))) && true then some (AVal.agg [AVal.int IntKind.i64 (↑c : Int), AVal.int IntKind.i64 (↑r : Int), AVal.own (4 : Nat) (0 : Nat) q (0 : Nat) (1 : Nat), AVal.own (6 : Nat) (0 : Nat) q (0 : Nat) (1 : Nat)], [{ c := BC.cells [AVal.int IntKind.i64 (↑r : Int), AVal.int IntKind.i64 (↑c : Int), AVal.ro (Cont.ints IntKind.i64 xs) xs.length (1 : Nat), AVal.ro (Cont.ints IntKind.i64 ys) ys.length (1 : Nat)], ver := (0 : Nat) }, { c := BC.cells [AVal.int IntKind.i64 (↑c : Int), AVal.int IntKind.i64 (↑r : Int), AVal.own (4 : Nat) (0 : Nat) q (0 : Nat) (1 : Nat), AVal.own (6 : Nat) (0 : Nat) q (0 : Nat) (1 : Nat)], ver := (0 : Nat) }, { c := BC.cells [AVal.int IntKind.i64 (↑c : Int), AVal.int IntKind.i64 (↑r : Int), AVal.own (4 : Nat) (0 : Nat) q (0 : Nat) (1 : Nat), AVal.own (6 : Nat) (0 : Nat) q (0 : Nat) (1 : Nat)], ver := (0 : Nat) }, { c := BC.typ (Cont.ints IntKind.i64 [u]), ver := (0 : Nat) }, { c := BC.typ (Cont.ints IntKind.i64 az), ver := (0 : Nat) }, { c := BC.typ (Cont.ints IntKind.i64 [w]), ver := (0 : Nat) }, { c := BC.typ (Cont.ints IntKind.i64 bz), ver := (0 : Nat) }]) else none else none) := by kernel_rfl
theorem round2 (r c : Nat) (xs ys : List Int) (az bz : List Int) (u w : Int) (q k i : Nat) (f n n2 : Nat) :
  L2 f n (n2 + 1) (mkS 42 [(1, .ptr 0 0 0), (2, .ptr 1 0 0), (3, .ptr 2 0 0), (4, .int .i64 k), (12, .int .i64 c), (13, .int .i64 k), (17, .int .i64 r), (18, .int .i64 i)] [⟨.cells [.int .i64 r, .int .i64 c, .ro (.ints .i64 xs) xs.length 1, .ro (.ints .i64 ys) ys.length 1], 0⟩, ⟨.cells [.int .i64 0, .int .i64 0, .nils, .nils], 0⟩, ⟨.cells [.int .i64 c, .int .i64 r, .own 4 0 q 0 1, .own 6 0 q 0 1], 0⟩, ⟨.typ (.ints .i64 [u]), 0⟩, ⟨.typ (.ints .i64 az), 0⟩, ⟨.typ (.ints .i64 [w]), 0⟩, ⟨.typ (.ints .i64 bz), 0⟩])
  = (bif decide ((↑i : Int) < (↑r : Int)) then bif true && true then bif true && true && (true && true && (true && true && (true && true && true))) then bif decide (xs.length = xs.length ∧ ys.length = ys.length ∧ (0 : Int) ≤ (↑i : Int) ∧ (0 : Int) ≤ (↑k : Int) ∧ (↑i : Int) ≤ (100 : Int) ∧ (↑k : Int) ≤ (100 : Int) ∧ (0 : Int) ≤ (↑c : Int) ∧ (↑c : Int) ≤ (100 : Int) ∧ (↑i : Int) * (↑c : Int) + (↑k : Int) < (↑ys.length : Int)) && (true && (true && (true && (true && true))) && (true && (true && true)) || true && true) then bif (1 : Nat) == (1 : Nat) && (1 : Nat) == (1 : Nat) && (true && (true && true) && (true && true && (decide (q + (List.take (1 : Nat) (List.drop (0 : Nat) ((List.replicate (1 : Nat) (0 : Int)).set (0 : Nat) (gz ys ((↑i : Int) * (↑c : Int) + (↑k : Int)).toNat)))).length ≤ (4611686018427387904 : Nat)) && decide ((q + (List.take (1 : Nat) (List.drop (0 : Nat) ((List.replicate (1 : Nat) (0 : Int)).set (0 : Nat) (gz ys ((↑i : Int) * (↑c : Int) + (↑k : Int)).toNat)))).length) * (8 : Nat) ≤ (140737488355328 : Nat))))) then bif true && true then bif true && true && (true && true && (true && true && (true && true && true))) then bif decide (xs.length = xs.length ∧ ys.length = ys.length ∧ (0 : Int) ≤ (↑i : Int) ∧ (0 : Int) ≤ (↑k : Int) ∧ (↑i : Int) ≤ (100 : Int) ∧ (↑k : Int) ≤ (100 : Int) ∧ (0 : Int) ≤ (↑c : Int) ∧ (↑c : Int) ≤ (100 : Int) ∧ (↑i : Int) * (↑c : Int) + (↑k : Int) < (↑xs.length : Int)) && (true && (true && (true && (true && true))) && (true && (true && true)) || true && true) then bif (1 : Nat) == (1 : Nat) && (1 : Nat) == (1 : Nat) && (true && (true && true) && (true && true && (decide (q + (List.take (1 : Nat) (List.drop (0 : Nat) ((List.replicate (1 : Nat) (0 : Int)).set (0 : Nat) (gz xs ((↑i : Int) * (↑c : Int) + (↑k : Int)).toNat)))).length ≤ (4611686018427387904 : Nat)) && decide ((q + (List.take (1 : Nat) (List.drop (0 : Nat) ((List.replicate (1 : Nat) (0 : Int)).set (0 : Nat) (gz xs ((↑i : Int) * (↑c : Int) + (↑k : Int)).toNat)))).length) * (8 : Nat) ≤ (140737488355328 : Nat))))) then L2 f n n2 (mkS (42 : Nat) [((1 : Nat), AVal.ptr (0 : Nat) (0 : Nat) (0 : Nat)), ((2 : Nat), AVal.ptr (1 : Nat) (0 : Nat) (0 : Nat)), ((3 : Nat), AVal.ptr (2 : Nat) (0 : Nat) (0 : Nat)), ((4 : Nat), AVal.int IntKind.i64 (↑k : Int)), ((12 : Nat), AVal.int IntKind.i64 (↑c : Int)), ((13 : Nat), AVal.int IntKind.i64 (↑k : Int)), ((17 : Nat), AVal.int IntKind.i64 (↑r : Int)), ((18 : Nat), AVal.int IntKind.i64 (IntKind.i64.wrap ((↑i : Int) + (1 : Int))))] [{ c := BC.cells [AVal.int IntKind.i64 (↑r : Int), AVal.int IntKind.i64 (↑c : Int), AVal.ro (Cont.ints IntKind.i64 xs) xs.length (1 : Nat), AVal.ro (Cont.ints IntKind.i64 ys) ys.length (1 : Nat)], ver := (0 : Nat) }, { c := BC.cells [AVal.int IntKind.i64 (0 : Int), AVal.int IntKind.i64 (0 : Int), AVal.nils, AVal.nils], ver := (0 : Nat) }, { c := BC.cells [AVal.int IntKind.i64 (↑c : Int), AVal.int IntKind.i64 (↑r : Int), AVal.own (4 : Nat) (0 : Nat) (q + (List.take (1 : Nat) (List.drop (0 : Nat) ((List.replicate (1 : Nat) (0 : Int)).set (0 : Nat) (gz ys ((↑i : Int) * (↑c : Int) + (↑k : Int)).toNat)))).length) (0 : Nat) (1 : Nat), AVal.own (6 : Nat) (0 : Nat) (q + (List.take (1 : Nat) (List.drop (0 : Nat) ((List.replicate (1 : Nat) (0 : Int)).set (0 : Nat) (gz xs ((↑i : Int) * (↑c : Int) + (↑k : Int)).toNat)))).length) (0 : Nat) (1 : Nat)], ver := (0 : Nat) }, { c := BC.typ (Cont.ints IntKind.i64 [u]), ver := (0 : Nat) }, { c := BC.typ (Cont.ints IntKind.i64 (List.take q az ++ List.take (1 : Nat) (List.drop (0 : Nat) ((List.replicate (1 : Nat) (0 : Int)).set (0 : Nat) (gz ys ((↑i : Int) * (↑c : Int) + (↑k : Int)).toNat))))), ver := (0 : Nat) }, { c := BC.typ (Cont.ints IntKind.i64 [w]), ver := (0 : Nat) }, { c := BC.typ (Cont.ints IntKind.i64 (List.take q bz ++ List.take (1 : Nat) (List.drop (0 : Nat) ((List.replicate (1 : Nat) (0 : Int)).set (0 : Nat) (gz xs ((↑i : Int) * (↑c : Int) + (↑k : Int)).toNat))))), ver := (0 : Nat) }]) else none else none else none else none else none else none else none else none else L1 f n (mkS (42 : Nat) [((1 : Nat), AVal.ptr (0 : Nat) (0 : Nat) (0 : Nat)), ((2 : Nat), AVal.ptr (1 : Nat) (0 : Nat) (0 : Nat)), ((3 : Nat), AVal.ptr (2 : Nat) (0 : Nat) (0 : Nat)), ((12 : Nat), AVal.int IntKind.i64 (↑c : Int)), ((13 : Nat), AVal.int IntKind.i64 (IntKind.i64.wrap ((↑k : Int) + (1 : Int))))] [{ c := BC.cells [AVal.int IntKind.i64 (↑r : Int), AVal.int IntKind.i64 (↑c : Int), AVal.ro (Cont.ints IntKind.i64 xs) xs.length (1 : Nat), AVal.ro (Cont.ints IntKind.i64 ys) ys.length (1 : Nat)], ver := (0 : Nat) }, { c := BC.cells [AVal.int IntKind.i64 (0 : Int), AVal.int IntKind.i64 (0 : Int), AVal.nils, AVal.nils], ver := (0 : Nat) }, { c := BC.cells [AVal.int IntKind.i64 (↑c : Int), AVal.int IntKind.i64 (↑r : Int), AVal.own (4 : Nat) (0 : Nat) q (0 : Nat) (1 : Nat), AVal.own (6 : Nat) (0 : Nat) q (0 : Nat) (1 : Nat)], ver := (0 : Nat) }, { c := BC.typ (Cont.ints IntKind.i64 [u]), ver := (0 : Nat) }, { c := BC.typ (Cont.ints IntKind.i64 az), ver := (0 : Nat) }, { c := BC.typ (Cont.ints IntKind.i64 [w]), ver := (0 : Nat) }, { c := BC.typ (Cont.ints IntKind.i64 bz), ver := (0 : Nat) }])) := by kernel_rfl
theorem inner (r c : Nat) (xs ys : List Int) (u w : Int) (f n k : Nat) (hr : 1 ≤ r ∧ r ≤ 6) (hc : 1 ≤ c ∧ c ≤ 6) (hx : xs.length = r * c) (hy : ys.length = r * c) (hk : k < c) : ∀ (d i n2 : Nat), i + d = r → d < n2 → (k = 0 → 1 ≤ i) →
    L2 f n n2 (mkS 42 [(1, .ptr 0 0 0), (2, .ptr 1 0 0), (3, .ptr 2 0 0), (4, .int .i64 ((k : Nat) : Int)), (12, .int .i64 c), (13, .int .i64 ((k : Nat) : Int)), (17, .int .i64 r), (18, .int .i64 ((i : Nat) : Int))] [⟨.cells [.int .i64 r, .int .i64 c, .ro (.ints .i64 xs) xs.length 1, .ro (.ints .i64 ys) ys.length 1], 0⟩, ⟨.cells [.int .i64 0, .int .i64 0, .nils, .nils], 0⟩, ⟨.cells [.int .i64 c, .int .i64 r, .own 4 0 (k * r + i) 0 1, .own 6 0 (k * r + i) 0 1], 0⟩, ⟨.typ (.ints .i64 [u]), 0⟩, ⟨.typ (.ints .i64 (tn.pre r c ys k i)), 0⟩, ⟨.typ (.ints .i64 [w]), 0⟩, ⟨.typ (.ints .i64 (tn.pre r c xs k i)), 0⟩]) = L1 f n (mkS 42 [(1, .ptr 0 0 0), (2, .ptr 1 0 0), (3, .ptr 2 0 0), (12, .int .i64 c), (13, .int .i64 (((k + 1) : Nat) : Int))] [⟨.cells [.int .i64 r, .int .i64 c, .ro (.ints .i64 xs) xs.length 1, .ro (.ints .i64 ys) ys.length 1], 0⟩, ⟨.cells [.int .i64 0, .int .i64 0, .nils, .nils], 0⟩, ⟨.cells [.int .i64 c, .int .i64 r, .own 4 0 ((k + 1) * r + 0) 0 1, .own 6 0 ((k + 1) * r + 0) 0 1], 0⟩, ⟨.typ (.ints .i64 [u]), 0⟩, ⟨.typ (.ints .i64 (tn.pre r c ys (k + 1) 0)), 0⟩, ⟨.typ (.ints .i64 [w]), 0⟩, ⟨.typ (.ints .i64 (tn.pre r c xs (k + 1) 0)), 0⟩]) := by
  intro d
  induction d with
  | zero =>
    intro i n2 hi hn hz
    obtain ⟨n2, rfl⟩ : ∃ k, n2 = k + 1 := ⟨n2 - 1, by omega⟩
    obtain rfl : i = r := by omega
    rw [round2]
    have wk : IntKind.i64.wrap ((k : Int) + 1) = ((k + 1 : Nat) : Int) := wrap_nat k (by omega)
    have e : k * i + i = (k + 1) * i + 0 := by rw [Nat.add_mul, Nat.one_mul]; rfl
    simp only [Int.lt_irrefl, wk, tn.pre_next, e, decide_true, decide_false, Bool.and_self, Bool.or_self, Bool.and_true, Bool.true_and, Bool.and_false, Bool.false_and, Bool.or_true, Bool.true_or, Bool.or_false, Bool.false_or, Bool.not_true, Bool.not_false, cond_true, cond_false]
  | succ d ih =>
    intro i n2 hi' hn hz
    obtain ⟨n2, rfl⟩ : ∃ k, n2 = k + 1 := ⟨n2 - 1, by omega⟩
    have hi : i < r := by omega
    have hlt := gm.ix_lt (R := r) (C := c) hi hk
    have h36 := gm.le_36 hr.2 hc.2
    have i0 : (0 : Int) ≤ (i : Int) := Int.natCast_nonneg _
    have i1 : (i : Int) ≤ 100 := by omega
    have i2 : (i : Int) < (r : Int) := by omega
    have k0 : (0 : Int) ≤ (k : Int) := Int.natCast_nonneg _
    have k1 : (k : Int) ≤ 100 := by omega
    have c0 : (0 : Int) ≤ (c : Int) := Int.natCast_nonneg _
    have c1 : (c : Int) ≤ 100 := by omega
    have em : (i : Int) * (c : Int) = ((i * c : Nat) : Int) := by simp
    have ee : ((i * c : Nat) : Int) + (k : Int) = ((i * c + k : Nat) : Int) := by simp
    have lx : ((i * c + k : Nat) : Int) < (xs.length : Int) := by omega
    have ly : ((i * c + k : Nat) : Int) < (ys.length : Int) := by omega
    have lx2 : i * c + k < xs.length := by omega
    have ly2 : i * c + k < ys.length := by omega
    have p0 : (0 : Int) ≤ ((i * c + k : Nat) : Int) := Int.natCast_nonneg _
    have w1 : IntKind.i64.wrap ((i * c : Nat) : Int) = ((i * c : Nat) : Int) := IntWalk.i64_in _ (by omega)
    have w2 : IntKind.i64.wrap ((i * c + k : Nat) : Int) = ((i * c + k : Nat) : Int) := IntWalk.i64_in _ (by omega)
    have wi : IntKind.i64.wrap ((i : Int) + 1) = ((i + 1 : Nat) : Int) := wrap_nat i (by omega)
    have kr : k * r + i < 36 + 1 := by
      have := gm.ix_lt (R := c) (C := r) hk hi
      rw [Nat.mul_comm c r] at this
      omega
    have s1 : k * r + i + 1 ≤ 4611686018427387904 := by omega
    have s2 : (k * r + i + 1) * 8 ≤ 140737488355328 := by omega
    have tx : (tn.pre r c xs k i).take (k * r + i) = tn.pre r c xs k i := List.take_of_length_le (by rw [tn.pre_length]; omega)
    have ty : (tn.pre r c ys k i).take (k * r + i) = tn.pre r c ys k i := List.take_of_length_le (by rw [tn.pre_length]; omega)
    have hih := ih (i + 1) n2 (by omega) (by omega) (by omega)
    rw [round2]
    simp only [tx, ty, s1, s2, tn.pre_succ, em, w1, ee, w2, wi, lx, ly, lx2, ly2, p0, i0, i1, i2, k0, k1, c0, c1, Int.toNat_natCast, one_set, List.length_singleton, Nat.zero_add, List.replicate_zero, List.take_nil, List.nil_append, Nat.reduceBEq, Nat.lt_irrefl, Nat.le_refl, List.take_length, and_self, decide_true, decide_false, Bool.and_self, Bool.or_self, Bool.and_true, Bool.true_and, Bool.and_false, Bool.false_and, Bool.or_true, Bool.true_or, Bool.or_false, Bool.false_or, Bool.not_true, Bool.not_false, cond_true, cond_false]
    exact hih
theorem outer (r c : Nat) (xs ys : List Int) (u w : Int) (f : Nat) (hr : 1 ≤ r ∧ r ≤ 6) (hc : 1 ≤ c ∧ c ≤ 6) (hx : xs.length = r * c) (hy : ys.length = r * c) (hf : r < f) : ∀ (d k n : Nat), k + d = c → d < n → 1 ≤ k →
    L1 f n (mkS 42 [(1, .ptr 0 0 0), (2, .ptr 1 0 0), (3, .ptr 2 0 0), (12, .int .i64 c), (13, .int .i64 ((k : Nat) : Int))] [⟨.cells [.int .i64 r, .int .i64 c, .ro (.ints .i64 xs) xs.length 1, .ro (.ints .i64 ys) ys.length 1], 0⟩, ⟨.cells [.int .i64 0, .int .i64 0, .nils, .nils], 0⟩, ⟨.cells [.int .i64 c, .int .i64 r, .own 4 0 (k * r + 0) 0 1, .own 6 0 (k * r + 0) 0 1], 0⟩, ⟨.typ (.ints .i64 [u]), 0⟩, ⟨.typ (.ints .i64 (tn.pre r c ys k 0)), 0⟩, ⟨.typ (.ints .i64 [w]), 0⟩, ⟨.typ (.ints .i64 (tn.pre r c xs k 0)), 0⟩]) = some (.agg [.int .i64 c, .int .i64 r, .own 4 0 (c * r + 0) 0 1, .own 6 0 (c * r + 0) 0 1], [⟨.cells [.int .i64 r, .int .i64 c, .ro (.ints .i64 xs) xs.length 1, .ro (.ints .i64 ys) ys.length 1], 0⟩, ⟨.cells [.int .i64 c, .int .i64 r, .own 4 0 (c * r + 0) 0 1, .own 6 0 (c * r + 0) 0 1], 0⟩, ⟨.cells [.int .i64 c, .int .i64 r, .own 4 0 (c * r + 0) 0 1, .own 6 0 (c * r + 0) 0 1], 0⟩, ⟨.typ (.ints .i64 [u]), 0⟩, ⟨.typ (.ints .i64 (tn.sv r c ys)), 0⟩, ⟨.typ (.ints .i64 [w]), 0⟩, ⟨.typ (.ints .i64 (tn.sv r c xs)), 0⟩]) := by
  intro d
  induction d with
  | zero =>
    intro k n hk hn h1
    obtain ⟨n, rfl⟩ : ∃ k, n = k + 1 := ⟨n - 1, by omega⟩
    obtain rfl : k = c := by omega
    rw [round1]
    simp only [Int.lt_irrefl, tn.pre_all, decide_true, decide_false, Bool.and_self, Bool.or_self, Bool.and_true, Bool.true_and, Bool.and_false, Bool.false_and, Bool.or_true, Bool.true_or, Bool.or_false, Bool.false_or, Bool.not_true, Bool.not_false, cond_true, cond_false]
  | succ d ih =>
    intro k n hk hn h1
    obtain ⟨n, rfl⟩ : ∃ k, n = k + 1 := ⟨n - 1, by omega⟩
    have hkc : k < c := by omega
    have hkc' : (k : Int) < (c : Int) := by omega
    rw [round1]
    simp only [hkc', decide_true, cond_true]
    have hin := inner r c xs ys u w f n k hr hc hx hy hkc r 0 f (by omega) hf
    have hout := ih (k + 1) n (by omega) (by omega) (by omega)
    exact (hin (by omega)).trans hout
theorem all (r c : Nat) (xs ys : List Int) (f : Nat) (hr : 1 ≤ r ∧ r ≤ 6) (hc : 1 ≤ c ∧ c ≤ 6) (hx : xs.length = r * c) (hy : ys.length = r * c) (hf : c + r < f) : ∃ u w,
    L1 f f (mkS 42 [(1, .ptr 0 0 0), (2, .ptr 1 0 0), (3, .ptr 2 0 0), (12, .int .i64 c), (13, .int .i64 0)] [⟨.cells [.int .i64 r, .int .i64 c, .ro (.ints .i64 xs) xs.length 1, .ro (.ints .i64 ys) ys.length 1], 0⟩, ⟨.cells [.int .i64 0, .int .i64 0, .nils, .nils], 0⟩, ⟨.cells [.int .i64 c, .int .i64 r, .nils, .nils], 0⟩]) = some (.agg [.int .i64 c, .int .i64 r, .own 4 0 (c * r + 0) 0 1, .own 6 0 (c * r + 0) 0 1], [⟨.cells [.int .i64 r, .int .i64 c, .ro (.ints .i64 xs) xs.length 1, .ro (.ints .i64 ys) ys.length 1], 0⟩, ⟨.cells [.int .i64 c, .int .i64 r, .own 4 0 (c * r + 0) 0 1, .own 6 0 (c * r + 0) 0 1], 0⟩, ⟨.cells [.int .i64 c, .int .i64 r, .own 4 0 (c * r + 0) 0 1, .own 6 0 (c * r + 0) 0 1], 0⟩, ⟨.typ (.ints .i64 [u]), 0⟩, ⟨.typ (.ints .i64 (tn.sv r c ys)), 0⟩, ⟨.typ (.ints .i64 [w]), 0⟩, ⟨.typ (.ints .i64 (tn.sv r c xs)), 0⟩]) := by
  obtain ⟨f, rfl⟩ : ∃ k, f = k + 1 := ⟨f - 1, by omega⟩
  refine ⟨gz ys (0 * c + 0), gz xs (0 * c + 0), ?_⟩
  have hkc' : ((0 : Nat) : Int) < (c : Int) := by omega
  have hz := round1z r c xs ys 0 (f + 1) f
  simp only [hkc', decide_true, cond_true] at hz
  have hz2 : L2 (f + 1) f (f + 1) (mkS 42 [(1, .ptr 0 0 0), (2, .ptr 1 0 0), (3, .ptr 2 0 0), (4, .int .i64 ((0 : Nat) : Int)), (12, .int .i64 c), (13, .int .i64 ((0 : Nat) : Int)), (17, .int .i64 r), (18, .int .i64 0)] [⟨.cells [.int .i64 r, .int .i64 c, .ro (.ints .i64 xs) xs.length 1, .ro (.ints .i64 ys) ys.length 1], 0⟩, ⟨.cells [.int .i64 0, .int .i64 0, .nils, .nils], 0⟩, ⟨.cells [.int .i64 c, .int .i64 r, .nils, .nils], 0⟩]) = L2 (f + 1) f f (mkS 42 [(1, .ptr 0 0 0), (2, .ptr 1 0 0), (3, .ptr 2 0 0), (4, .int .i64 ((0 : Nat) : Int)), (12, .int .i64 c), (13, .int .i64 ((0 : Nat) : Int)), (17, .int .i64 r), (18, .int .i64 ((1 : Nat) : Int))] [⟨.cells [.int .i64 r, .int .i64 c, .ro (.ints .i64 xs) xs.length 1, .ro (.ints .i64 ys) ys.length 1], 0⟩, ⟨.cells [.int .i64 0, .int .i64 0, .nils, .nils], 0⟩, ⟨.cells [.int .i64 c, .int .i64 r, .own 4 0 1 0 1, .own 6 0 1 0 1], 0⟩, ⟨.typ (.ints .i64 [gz ys (0 * c + 0)]), 0⟩, ⟨.typ (.ints .i64 [gz ys (0 * c + 0)]), 0⟩, ⟨.typ (.ints .i64 [gz xs (0 * c + 0)]), 0⟩, ⟨.typ (.ints .i64 [gz xs (0 * c + 0)]), 0⟩]) := by
    obtain ⟨k, hk0⟩ : ∃ k : Nat, k = 0 := ⟨0, rfl⟩
    obtain ⟨i, hi0⟩ : ∃ i : Nat, i = 0 := ⟨0, rfl⟩
    have hk : k < c := by omega
    have hi : i < r := by omega
    have hlt := gm.ix_lt (R := r) (C := c) hi hk
    have h36 := gm.le_36 hr.2 hc.2
    have i0 : (0 : Int) ≤ (i : Int) := Int.natCast_nonneg _
    have i1 : (i : Int) ≤ 100 := by omega
    have i2 : (i : Int) < (r : Int) := by omega
    have k0 : (0 : Int) ≤ (k : Int) := Int.natCast_nonneg _
    have k1 : (k : Int) ≤ 100 := by omega
    have c0 : (0 : Int) ≤ (c : Int) := Int.natCast_nonneg _
    have c1 : (c : Int) ≤ 100 := by omega
    have em : (i : Int) * (c : Int) = ((i * c : Nat) : Int) := by simp
    have ee : ((i * c : Nat) : Int) + (k : Int) = ((i * c + k : Nat) : Int) := by simp
    have lx : ((i * c + k : Nat) : Int) < (xs.length : Int) := by omega
    have ly : ((i * c + k : Nat) : Int) < (ys.length : Int) := by omega
    have lx2 : i * c + k < xs.length := by omega
    have ly2 : i * c + k < ys.length := by omega
    have p0 : (0 : Int) ≤ ((i * c + k : Nat) : Int) := Int.natCast_nonneg _
    have w1 : IntKind.i64.wrap ((i * c : Nat) : Int) = ((i * c : Nat) : Int) := IntWalk.i64_in _ (by omega)
    have w2 : IntKind.i64.wrap ((i * c + k : Nat) : Int) = ((i * c + k : Nat) : Int) := IntWalk.i64_in _ (by omega)
    have wi : IntKind.i64.wrap ((i : Int) + 1) = ((i + 1 : Nat) : Int) := wrap_nat i (by omega)
    have hzz := round2z r c xs ys k i (f + 1) f f
    simp only [em, w1, ee, w2, wi, lx, ly, lx2, ly2, p0, i0, i1, i2, k0, k1, c0, c1, Int.toNat_natCast, one_set, List.length_singleton, Nat.zero_add, List.replicate_zero, List.take_nil, List.nil_append, Nat.reduceBEq, Nat.lt_irrefl, Nat.le_refl, List.take_length, and_self, decide_true, decide_false, Bool.and_self, Bool.or_self, Bool.and_true, Bool.true_and, Bool.and_false, Bool.false_and, Bool.or_true, Bool.true_or, Bool.or_false, Bool.false_or, Bool.not_true, Bool.not_false, cond_true, cond_false, Nat.reduceMul, Nat.reduceLeDiff, Nat.reduceLT, Nat.zero_lt_one, Nat.reduceAdd] at hzz
    subst hk0 hi0
    exact hzz
  have hin := inner r c xs ys (gz ys (0 * c + 0)) (gz xs (0 * c + 0)) (f + 1) f 0 hr hc hx hy (by omega) (r - 1) 1 f (by omega) (by omega) (fun _ => Nat.le_refl _)
  have hout := outer r c xs ys (gz ys (0 * c + 0)) (gz xs (0 * c + 0)) (f + 1) hr hc hx hy (by omega) (c - 1) 1 f (by omega) (by omega) (Nat.le_refl _)
  have e1 : ∀ zs, tn.pre r c zs 0 1 = [gz zs (0 * c + 0)] := fun zs => by rw [← tn.pre_succ, tn.pre_zero]; rfl
  have e2 : 0 * r + 1 = 1 := by omega
  rw [e1, e1, e2] at hin
  exact hz.trans (hz2.trans (hin.trans hout))
theorem run : ∀ args v new, R args = some (true, v, new) → ∃ fuel, regc [4, 6] (runFn Try.prog (orc [⟨89, gA.R⟩, ⟨88, gB.R⟩]) hd Dr.std none fuel (bodyOf Try.f70) 42 [.cell 2 56] args []) = some (v, new) := by
  intro args v new h
  unfold R at h
  split at h
  · rename_i r c xs ma ys mb
    simp only [Option.some.injEq, Prod.mk.injEq, Bool.and_eq_true, decide_eq_true_eq, Bool.not_eq_true'] at h
    obtain ⟨⟨⟨rfl, rfl⟩, hv⟩, rfl, rfl⟩ := h
    obtain ⟨r, c, rfl, rfl, hr, hc, hx, hy, vx, vy⟩ := gm.valid hv
    obtain ⟨F, hF⟩ : ∃ F : Nat, F = 100 := ⟨100, rfl⟩
    refine ⟨F, ?_⟩
    rw [start]
    obtain ⟨u, w, hl⟩ := all r c xs ys F hr hc hx hy (by omega)
    have e : ((c : Int) * (r : Int)).toNat = c * r + 0 := by
      have : (c : Int) * (r : Int) = ((c * r : Nat) : Int) := by simp
      rw [this]; rfl
    rw [e]
    exact (congrArg (regc [4, 6]) hl).trans rfl
  · cases h
theorem ok : EntOk Try.prog ⟨70, R⟩ :=
  ent_okAG (ks := [4, 6]) mixed (A := (orc [⟨89, gA.R⟩, ⟨88, gB.R⟩])) (orc_ok (by simp only [List.mem_cons, List.not_mem_nil, or_false, forall_eq_or_imp, forall_eq]; exact ⟨gA.ok, gB.ok⟩)) Try.func70 (by kernel_rfl) (by kernel_rfl) (n := 42) (ts := [.cell 2 56]) (hd := hd) (dr := Dr.std) (cut := none) (by kernel_rfl) (by kernel_rfl) (by kernel_rfl) run
end gTurned

end Go.Proofs.Ythecninmmojkgaa.Ab
