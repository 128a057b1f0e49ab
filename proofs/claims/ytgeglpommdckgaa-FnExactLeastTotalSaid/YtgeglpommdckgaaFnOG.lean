/-
  Functions: all choices, one by one.
-/
import Derived.Test.YtgeglpommdckgaaFnOF
namespace Go.Proofs.Ytgeglpommdckgaa.Ab
open Go
set_option linter.unusedVariables false
set_option linter.unusedSimpArgs false
set_option maxRecDepth 100000

namespace choices_t
def R : List AVal → Heap → Option (Bool × AVal × Heap)
  | [.agg [.int .i64 u, .int .i64 r, .ro (.ints .i64 ws) mw 1, .ro (.ints .i64 cs) mc 1], .fn ff [.ptr 0 0 0, .ptr 1 0 0, .ptr 2 0 0]], [⟨.cells [.int .i64 u', .int .i64 r', .ro (.ints .i64 ws') mw' 1, .ro (.ints .i64 cs') mc' 1], 0⟩, ⟨.cells [.nils], 0⟩, ⟨.cells [.int .i64 l], 0⟩] => some (decide (mw = ws.length ∧ mc = cs.length ∧ mw ≤ 4611686018427387904 ∧ mc ≤ 4611686018427387904 ∧ ff = 53 ∧ u' = u ∧ r' = r ∧ ws' = ws ∧ cs' = cs ∧ mw' = mw ∧ mc' = mc) && od.ok.sp u r ws cs, .bool true, [⟨.cells [.int .i64 u, .int .i64 r, .ro (.ints .i64 ws) mw 1, .ro (.ints .i64 cs) mc 1], 0⟩, ⟨.cells [.own 5 0 u.toNat 0 1], 0⟩, ⟨.cells [.int .i64 (od.M.sv u r ws cs)], 0⟩, ⟨.cells [.int .i64 u, .int .i64 r, .ro (.ints .i64 ws) mw 1, .ro (.ints .i64 cs) mc 1], 0⟩, ⟨.typ (.ints .i64 (List.replicate u.toNat 0)), 0⟩, ⟨.typ (.ints .i64 (od.B.sv u r ws cs)), 0⟩])
  | _, _ => none
def hd : Nat → Head := fun i => bif eqN i 0 then ⟨[1, 2, 5, 9, 10], none⟩ else bif eqN i 2 then ⟨[1, 2, 6, 23, 24], none⟩ else ⟨[1, 2, 6, 7, 23, 24], none⟩
noncomputable def LC (f n : Nat) (s : State) := loopAt Try.prog (orcW [⟨53, leastClo.R⟩] []) hd Dr.std 3 f (bodyOf Try.f52) 0 [true, true, false, true] (retK Try.prog [4] 3 none) n s
noncomputable def LA (f n : Nat) (s : State) := loopAt Try.prog (orcW [⟨53, leastClo.R⟩] []) hd Dr.std 3 f (bodyOf Try.f52) 0 [true, true, true, true, true, false, true] (retK Try.prog [4] 3 none) n s
noncomputable def LB (f n n2 : Nat) (s : State) := loopAt Try.prog (orcW [⟨53, leastClo.R⟩] []) hd Dr.std 3 f (bodyAt (bodyOf Try.f52) [true, true, true, true, true, false, true]) (curAt (bodyOf Try.f52) 0 [true, true, true, true, true, false, true]) [true, true, false, true, true] (iterK (normE 3 (hd (curAt (bodyOf Try.f52) 0 [true, true, true, true, true, false, true]))) (LA f n) (contAt Try.prog (orcW [⟨53, leastClo.R⟩] []) hd Dr.std 3 f (bodyOf Try.f52) 0 [true, true, true, true, true, false, true] (retK Try.prog [4] 3 none))) n2 s
theorem start (u r : Int) (ws cs : List Int) (l : Int) (f : Nat) :
  runFn Try.prog (orcW [⟨53, leastClo.R⟩] []) hd Dr.std none f (bodyOf Try.f52) 54 [4] [.agg [.int .i64 u, .int .i64 r, .ro (.ints .i64 ws) ws.length 1, .ro (.ints .i64 cs) cs.length 1], .fn 53 [.ptr 0 0 0, .ptr 1 0 0, .ptr 2 0 0]] [⟨.cells [.int .i64 u, .int .i64 r, .ro (.ints .i64 ws) ws.length 1, .ro (.ints .i64 cs) cs.length 1], 0⟩, ⟨.cells [.nils], 0⟩, ⟨.cells [.int .i64 l], 0⟩]
  = (bif true && (true && (true && true)) then bif true && true then LC f f (mkS (54 : Nat) [((1 : Nat), AVal.fn (53 : Nat) [AVal.ptr (0 : Nat) (0 : Nat) (0 : Nat), AVal.ptr (1 : Nat) (0 : Nat) (0 : Nat), AVal.ptr (2 : Nat) (0 : Nat) (0 : Nat)]), ((2 : Nat), AVal.ptr ((1 : Nat) + (1 : Nat) + (1 : Nat)) (0 : Nat) (0 : Nat)), ((5 : Nat), AVal.int IntKind.i64 (1 : Int)), ((9 : Nat), AVal.int IntKind.i64 u), ((10 : Nat), AVal.int IntKind.i64 (0 : Int))] [{ c := BC.cells [AVal.int IntKind.i64 u, AVal.int IntKind.i64 r, AVal.ro (Cont.ints IntKind.i64 ws) ws.length (1 : Nat), AVal.ro (Cont.ints IntKind.i64 cs) cs.length (1 : Nat)], ver := (0 : Nat) }, { c := BC.cells [AVal.nils], ver := (0 : Nat) }, { c := BC.cells [AVal.int IntKind.i64 l], ver := (0 : Nat) }, { c := BC.cells [AVal.int IntKind.i64 u, AVal.int IntKind.i64 r, AVal.ro (Cont.ints IntKind.i64 ws) ws.length (1 : Nat), AVal.ro (Cont.ints IntKind.i64 cs) cs.length (1 : Nat)], ver := (0 : Nat) }]) else none else none) := by kernel_rfl
theorem roundC (u r : Int) (ws cs : List Int) (l v : Int) (i f n : Nat) :
  LC f (n + 1) (mkS 54 [(1, .fn 53 [.ptr 0 0 0, .ptr 1 0 0, .ptr 2 0 0]), (2, .ptr 3 0 0), (5, .int .i64 v), (9, .int .i64 u), (10, .int .i64 i)] [⟨.cells [.int .i64 u, .int .i64 r, .ro (.ints .i64 ws) ws.length 1, .ro (.ints .i64 cs) cs.length 1], 0⟩, ⟨.cells [.nils], 0⟩, ⟨.cells [.int .i64 l], 0⟩, ⟨.cells [.int .i64 u, .int .i64 r, .ro (.ints .i64 ws) ws.length 1, .ro (.ints .i64 cs) cs.length 1], 0⟩])
  = (bif decide ((↑i : Int) < u) then bif true && true then LC f n (mkS (54 : Nat) [((1 : Nat), AVal.fn (53 : Nat) [AVal.ptr (0 : Nat) (0 : Nat) (0 : Nat), AVal.ptr (1 : Nat) (0 : Nat) (0 : Nat), AVal.ptr (2 : Nat) (0 : Nat) (0 : Nat)]), ((2 : Nat), AVal.ptr (3 : Nat) (0 : Nat) (0 : Nat)), ((5 : Nat), AVal.int IntKind.i64 (IntKind.i64.wrap (v * (↑ws.length : Int)))), ((9 : Nat), AVal.int IntKind.i64 u), ((10 : Nat), AVal.int IntKind.i64 (IntKind.i64.wrap ((↑i : Int) + (1 : Int))))] [{ c := BC.cells [AVal.int IntKind.i64 u, AVal.int IntKind.i64 r, AVal.ro (Cont.ints IntKind.i64 ws) ws.length (1 : Nat), AVal.ro (Cont.ints IntKind.i64 cs) cs.length (1 : Nat)], ver := (0 : Nat) }, { c := BC.cells [AVal.nils], ver := (0 : Nat) }, { c := BC.cells [AVal.int IntKind.i64 l], ver := (0 : Nat) }, { c := BC.cells [AVal.int IntKind.i64 u, AVal.int IntKind.i64 r, AVal.ro (Cont.ints IntKind.i64 ws) ws.length (1 : Nat), AVal.ro (Cont.ints IntKind.i64 cs) cs.length (1 : Nat)], ver := (0 : Nat) }]) else none else bif decide ((4096 : Int) < v) then some (AVal.bool false, [{ c := BC.cells [AVal.int IntKind.i64 u, AVal.int IntKind.i64 r, AVal.ro (Cont.ints IntKind.i64 ws) ws.length (1 : Nat), AVal.ro (Cont.ints IntKind.i64 cs) cs.length (1 : Nat)], ver := (0 : Nat) }, { c := BC.cells [AVal.nils], ver := (0 : Nat) }, { c := BC.cells [AVal.int IntKind.i64 l], ver := (0 : Nat) }, { c := BC.cells [AVal.int IntKind.i64 u, AVal.int IntKind.i64 r, AVal.ro (Cont.ints IntKind.i64 ws) ws.length (1 : Nat), AVal.ro (Cont.ints IntKind.i64 cs) cs.length (1 : Nat)], ver := (0 : Nat) }]) else bif true && true then bif (1 : Nat) == (1 : Nat) && (u == u && (decide ((0 : Int) ≤ u) && (decide (u * (8 : Int) ≤ (140737488355328 : Int)) && decide (u ≤ (4611686018427387904 : Int))))) then LA f f (mkS (54 : Nat) [((1 : Nat), AVal.fn (53 : Nat) [AVal.ptr (0 : Nat) (0 : Nat) (0 : Nat), AVal.ptr (1 : Nat) (0 : Nat) (0 : Nat), AVal.ptr (2 : Nat) (0 : Nat) (0 : Nat)]), ((2 : Nat), AVal.ptr (3 : Nat) (0 : Nat) (0 : Nat)), ((6 : Nat), AVal.own ((1 : Nat) + (1 : Nat) + (1 : Nat) + (1 : Nat)) (0 : Nat) u.toNat (0 : Nat) (1 : Nat)), ((23 : Nat), AVal.int IntKind.i64 v), ((24 : Nat), AVal.int IntKind.i64 (0 : Int))] [{ c := BC.cells [AVal.int IntKind.i64 u, AVal.int IntKind.i64 r, AVal.ro (Cont.ints IntKind.i64 ws) ws.length (1 : Nat), AVal.ro (Cont.ints IntKind.i64 cs) cs.length (1 : Nat)], ver := (0 : Nat) }, { c := BC.cells [AVal.nils], ver := (0 : Nat) }, { c := BC.cells [AVal.int IntKind.i64 l], ver := (0 : Nat) }, { c := BC.cells [AVal.int IntKind.i64 u, AVal.int IntKind.i64 r, AVal.ro (Cont.ints IntKind.i64 ws) ws.length (1 : Nat), AVal.ro (Cont.ints IntKind.i64 cs) cs.length (1 : Nat)], ver := (0 : Nat) }, { c := BC.typ (Cont.ints IntKind.i64 (List.replicate u.toNat (0 : Int))), ver := (0 : Nat) }]) else none else none) := by kernel_rfl
theorem roundA0 (u r : Int) (ws cs : List Int) (xs : List Int) (l N : Int) (i f n : Nat) :
  LA f (n + 1) (mkS 54 [(1, .fn 53 [.ptr 0 0 0, .ptr 1 0 0, .ptr 2 0 0]), (2, .ptr 3 0 0), (6, .own 4 0 xs.length 0 1), (23, .int .i64 N), (24, .int .i64 i)] [⟨.cells [.int .i64 u, .int .i64 r, .ro (.ints .i64 ws) ws.length 1, .ro (.ints .i64 cs) cs.length 1], 0⟩, ⟨.cells [.nils], 0⟩, ⟨.cells [.int .i64 l], 0⟩, ⟨.cells [.int .i64 u, .int .i64 r, .ro (.ints .i64 ws) ws.length 1, .ro (.ints .i64 cs) cs.length 1], 0⟩, ⟨.typ (.ints .i64 xs), 0⟩])
  = (bif decide ((↑i : Int) < N) then bif decide (ws.length = ws.length ∧ cs.length = cs.length ∧ ws.length ≤ (4611686018427387904 : Nat) ∧ cs.length ≤ (4611686018427387904 : Nat) ∧ xs.length = xs.length ∧ (0 : Nat) < xs.length ∧ xs.length ≤ (1000 : Nat)) && load.sp u r ws cs xs && (true && (true && (true && (true && (true && true))))) then LB f n f (mkS (54 : Nat) [((1 : Nat), AVal.fn (53 : Nat) [AVal.ptr (0 : Nat) (0 : Nat) (0 : Nat), AVal.ptr (1 : Nat) (0 : Nat) (0 : Nat), AVal.ptr (2 : Nat) (0 : Nat) (0 : Nat)]), ((2 : Nat), AVal.ptr (3 : Nat) (0 : Nat) (0 : Nat)), ((6 : Nat), AVal.own (4 : Nat) (0 : Nat) xs.length (0 : Nat) (1 : Nat)), ((7 : Nat), AVal.int IntKind.i64 (IntKind.i64.wrap ((↑xs.length : Int) - (1 : Int)))), ((23 : Nat), AVal.int IntKind.i64 N), ((24 : Nat), AVal.int IntKind.i64 (↑i : Int))] [{ c := BC.cells [AVal.int IntKind.i64 u, AVal.int IntKind.i64 r, AVal.ro (Cont.ints IntKind.i64 ws) ws.length (1 : Nat), AVal.ro (Cont.ints IntKind.i64 cs) cs.length (1 : Nat)], ver := (0 : Nat) }, { c := BC.cells [AVal.own ((1 : Nat) + (1 : Nat) + (1 : Nat) + (1 : Nat) + (1 : Nat) + (0 : Nat)) (0 : Nat) xs.length (0 : Nat) (1 : Nat)], ver := (0 : Nat) }, { c := BC.cells [AVal.int IntKind.i64 (od.T.sv u r ws cs xs)], ver := (0 : Nat) }, { c := BC.cells [AVal.int IntKind.i64 u, AVal.int IntKind.i64 r, AVal.ro (Cont.ints IntKind.i64 ws) ws.length (1 : Nat), AVal.ro (Cont.ints IntKind.i64 cs) cs.length (1 : Nat)], ver := (0 : Nat) }, { c := BC.typ (Cont.ints IntKind.i64 xs), ver := (0 : Nat) }, { c := BC.typ (Cont.ints IntKind.i64 xs), ver := (0 : Nat) }]) else none else some (AVal.bool true, [{ c := BC.cells [AVal.int IntKind.i64 u, AVal.int IntKind.i64 r, AVal.ro (Cont.ints IntKind.i64 ws) ws.length (1 : Nat), AVal.ro (Cont.ints IntKind.i64 cs) cs.length (1 : Nat)], ver := (0 : Nat) }, { c := BC.cells [AVal.nils], ver := (0 : Nat) }, { c := BC.cells [AVal.int IntKind.i64 l], ver := (0 : Nat) }, { c := BC.cells [AVal.int IntKind.i64 u, AVal.int IntKind.i64 r, AVal.ro (Cont.ints IntKind.i64 ws) ws.length (1 : Nat), AVal.ro (Cont.ints IntKind.i64 cs) cs.length (1 : Nat)], ver := (0 : Nat) }, { c := BC.typ (Cont.ints IntKind.i64 xs), ver := (0 : Nat) }])) := by kernel_rfl
theorem roundA (u r : Int) (ws cs : List Int) (xs bs : List Int) (l N : Int) (i f n : Nat) :
  LA f (n + 1) (mkS 54 [(1, .fn 53 [.ptr 0 0 0, .ptr 1 0 0, .ptr 2 0 0]), (2, .ptr 3 0 0), (6, .own 4 0 xs.length 0 1), (23, .int .i64 N), (24, .int .i64 i)] [⟨.cells [.int .i64 u, .int .i64 r, .ro (.ints .i64 ws) ws.length 1, .ro (.ints .i64 cs) cs.length 1], 0⟩, ⟨.cells [.own 5 0 bs.length 0 1], 0⟩, ⟨.cells [.int .i64 l], 0⟩, ⟨.cells [.int .i64 u, .int .i64 r, .ro (.ints .i64 ws) ws.length 1, .ro (.ints .i64 cs) cs.length 1], 0⟩, ⟨.typ (.ints .i64 xs), 0⟩, ⟨.typ (.ints .i64 bs), 0⟩])
  = (bif decide ((↑i : Int) < N) then bif decide (ws.length = ws.length ∧ cs.length = cs.length ∧ ws.length ≤ (4611686018427387904 : Nat) ∧ cs.length ≤ (4611686018427387904 : Nat) ∧ xs.length = xs.length ∧ (0 : Nat) < xs.length ∧ xs.length ≤ (1000 : Nat) ∧ bs.length = bs.length ∧ bs.length = xs.length) && load.sp u r ws cs xs && (true && (true && (true && (true && (true && (true && true)))))) then LB f n f (mkS (54 : Nat) [((1 : Nat), AVal.fn (53 : Nat) [AVal.ptr (0 : Nat) (0 : Nat) (0 : Nat), AVal.ptr (1 : Nat) (0 : Nat) (0 : Nat), AVal.ptr (2 : Nat) (0 : Nat) (0 : Nat)]), ((2 : Nat), AVal.ptr (3 : Nat) (0 : Nat) (0 : Nat)), ((6 : Nat), AVal.own (4 : Nat) (0 : Nat) xs.length (0 : Nat) (1 : Nat)), ((7 : Nat), AVal.int IntKind.i64 (IntKind.i64.wrap ((↑xs.length : Int) - (1 : Int)))), ((23 : Nat), AVal.int IntKind.i64 N), ((24 : Nat), AVal.int IntKind.i64 (↑i : Int))] [{ c := BC.cells [AVal.int IntKind.i64 u, AVal.int IntKind.i64 r, AVal.ro (Cont.ints IntKind.i64 ws) ws.length (1 : Nat), AVal.ro (Cont.ints IntKind.i64 cs) cs.length (1 : Nat)], ver := (0 : Nat) }, { c := BC.cells [AVal.own (5 : Nat) (0 : Nat) xs.length (0 : Nat) (1 : Nat)], ver := (0 : Nat) }, { c := BC.cells [AVal.int IntKind.i64 (bif decide (od.T.sv u r ws cs xs < l) then (xs, od.T.sv u r ws cs xs) else (bs, l)).2], ver := (0 : Nat) }, { c := BC.cells [AVal.int IntKind.i64 u, AVal.int IntKind.i64 r, AVal.ro (Cont.ints IntKind.i64 ws) ws.length (1 : Nat), AVal.ro (Cont.ints IntKind.i64 cs) cs.length (1 : Nat)], ver := (0 : Nat) }, { c := BC.typ (Cont.ints IntKind.i64 xs), ver := (0 : Nat) }, { c := BC.typ (Cont.ints IntKind.i64 (bif decide (od.T.sv u r ws cs xs < l) then (xs, od.T.sv u r ws cs xs) else (bs, l)).1), ver := (0 : Nat) }]) else none else some (AVal.bool true, [{ c := BC.cells [AVal.int IntKind.i64 u, AVal.int IntKind.i64 r, AVal.ro (Cont.ints IntKind.i64 ws) ws.length (1 : Nat), AVal.ro (Cont.ints IntKind.i64 cs) cs.length (1 : Nat)], ver := (0 : Nat) }, { c := BC.cells [AVal.own (5 : Nat) (0 : Nat) bs.length (0 : Nat) (1 : Nat)], ver := (0 : Nat) }, { c := BC.cells [AVal.int IntKind.i64 l], ver := (0 : Nat) }, { c := BC.cells [AVal.int IntKind.i64 u, AVal.int IntKind.i64 r, AVal.ro (Cont.ints IntKind.i64 ws) ws.length (1 : Nat), AVal.ro (Cont.ints IntKind.i64 cs) cs.length (1 : Nat)], ver := (0 : Nat) }, { c := BC.typ (Cont.ints IntKind.i64 xs), ver := (0 : Nat) }, { c := BC.typ (Cont.ints IntKind.i64 bs), ver := (0 : Nat) }])) := by kernel_rfl
theorem roundB (u r : Int) (ws cs : List Int) (xs bs : List Int) (l N k : Int) (i f n n2 : Nat) :
  LB f n (n2 + 1) (mkS 54 [(1, .fn 53 [.ptr 0 0 0, .ptr 1 0 0, .ptr 2 0 0]), (2, .ptr 3 0 0), (6, .own 4 0 xs.length 0 1), (7, .int .i64 k), (23, .int .i64 N), (24, .int .i64 i)] [⟨.cells [.int .i64 u, .int .i64 r, .ro (.ints .i64 ws) ws.length 1, .ro (.ints .i64 cs) cs.length 1], 0⟩, ⟨.cells [.own 5 0 bs.length 0 1], 0⟩, ⟨.cells [.int .i64 l], 0⟩, ⟨.cells [.int .i64 u, .int .i64 r, .ro (.ints .i64 ws) ws.length 1, .ro (.ints .i64 cs) cs.length 1], 0⟩, ⟨.typ (.ints .i64 xs), 0⟩, ⟨.typ (.ints .i64 bs), 0⟩])
  = (bif decide ((0 : Int) ≤ k) then bif true && (decide ((0 : Int) ≤ k) && decide (k < (↑xs.length : Int))) then bif true && decide (k.toNat < xs.length) then bif true && (decide ((0 : Int) ≤ k) && decide (k < (↑xs.length : Int))) then bif true && (true && (decide (k.toNat < xs.length) && true)) then bif true && (decide ((0 : Int) ≤ k) && decide (k < (↑xs.length : Int))) then bif true && decide (k.toNat < (xs.set k.toNat (IntKind.i64.wrap (gz xs k.toNat + (1 : Int)))).length) then bif true && true then bif decide (gz (xs.set k.toNat (IntKind.i64.wrap (gz xs k.toNat + (1 : Int)))) k.toNat < (↑ws.length : Int)) then LA f n (mkS (54 : Nat) [((1 : Nat), AVal.fn (53 : Nat) [AVal.ptr (0 : Nat) (0 : Nat) (0 : Nat), AVal.ptr (1 : Nat) (0 : Nat) (0 : Nat), AVal.ptr (2 : Nat) (0 : Nat) (0 : Nat)]), ((2 : Nat), AVal.ptr (3 : Nat) (0 : Nat) (0 : Nat)), ((6 : Nat), AVal.own (4 : Nat) (0 : Nat) xs.length (0 : Nat) (1 : Nat)), ((23 : Nat), AVal.int IntKind.i64 N), ((24 : Nat), AVal.int IntKind.i64 (IntKind.i64.wrap ((↑i : Int) + (1 : Int))))] [{ c := BC.cells [AVal.int IntKind.i64 u, AVal.int IntKind.i64 r, AVal.ro (Cont.ints IntKind.i64 ws) ws.length (1 : Nat), AVal.ro (Cont.ints IntKind.i64 cs) cs.length (1 : Nat)], ver := (0 : Nat) }, { c := BC.cells [AVal.own (5 : Nat) (0 : Nat) bs.length (0 : Nat) (1 : Nat)], ver := (0 : Nat) }, { c := BC.cells [AVal.int IntKind.i64 l], ver := (0 : Nat) }, { c := BC.cells [AVal.int IntKind.i64 u, AVal.int IntKind.i64 r, AVal.ro (Cont.ints IntKind.i64 ws) ws.length (1 : Nat), AVal.ro (Cont.ints IntKind.i64 cs) cs.length (1 : Nat)], ver := (0 : Nat) }, { c := BC.typ (Cont.ints IntKind.i64 (xs.set k.toNat (IntKind.i64.wrap (gz xs k.toNat + (1 : Int))))), ver := (0 : Nat) }, { c := BC.typ (Cont.ints IntKind.i64 bs), ver := (0 : Nat) }]) else bif true && (decide ((0 : Int) ≤ k) && decide (k < (↑xs.length : Int))) then bif true && (true && (decide (k.toNat < (xs.set k.toNat (IntKind.i64.wrap (gz xs k.toNat + (1 : Int)))).length) && true)) then LB f n n2 (mkS (54 : Nat) [((1 : Nat), AVal.fn (53 : Nat) [AVal.ptr (0 : Nat) (0 : Nat) (0 : Nat), AVal.ptr (1 : Nat) (0 : Nat) (0 : Nat), AVal.ptr (2 : Nat) (0 : Nat) (0 : Nat)]), ((2 : Nat), AVal.ptr (3 : Nat) (0 : Nat) (0 : Nat)), ((6 : Nat), AVal.own (4 : Nat) (0 : Nat) xs.length (0 : Nat) (1 : Nat)), ((7 : Nat), AVal.int IntKind.i64 (IntKind.i64.wrap (k - (1 : Int)))), ((23 : Nat), AVal.int IntKind.i64 N), ((24 : Nat), AVal.int IntKind.i64 (↑i : Int))] [{ c := BC.cells [AVal.int IntKind.i64 u, AVal.int IntKind.i64 r, AVal.ro (Cont.ints IntKind.i64 ws) ws.length (1 : Nat), AVal.ro (Cont.ints IntKind.i64 cs) cs.length (1 : Nat)], ver := (0 : Nat) }, { c := BC.cells [AVal.own (5 : Nat) (0 : Nat) bs.length (0 : Nat) (1 : Nat)], ver := (0 : Nat) }, { c := BC.cells [AVal.int IntKind.i64 l], ver := (0 : Nat) }, { c := BC.cells [AVal.int IntKind.i64 u, AVal.int IntKind.i64 r, AVal.ro (Cont.ints IntKind.i64 ws) ws.length (1 : Nat), AVal.ro (Cont.ints IntKind.i64 cs) cs.length (1 : Nat)], ver := (0 : Nat) }, { c := BC.typ (Cont.ints IntKind.i64 ((xs.set k.toNat (IntKind.i64.wrap (gz xs k.toNat + (1 : Int)))).set k.toNat (0 : Int))), ver := (0 : Nat) }, { c := BC.typ (Cont.ints IntKind.i64 bs), ver := (0 : Nat) }]) else none else none else none else none else none else none else none else none else none else LA f n (mkS (54 : Nat) [((1 : Nat), AVal.fn (53 : Nat) [AVal.ptr (0 : Nat) (0 : Nat) (0 : Nat), AVal.ptr (1 : Nat) (0 : Nat) (0 : Nat), AVal.ptr (2 : Nat) (0 : Nat) (0 : Nat)]), ((2 : Nat), AVal.ptr (3 : Nat) (0 : Nat) (0 : Nat)), ((6 : Nat), AVal.own (4 : Nat) (0 : Nat) xs.length (0 : Nat) (1 : Nat)), ((23 : Nat), AVal.int IntKind.i64 N), ((24 : Nat), AVal.int IntKind.i64 (IntKind.i64.wrap ((↑i : Int) + (1 : Int))))] [{ c := BC.cells [AVal.int IntKind.i64 u, AVal.int IntKind.i64 r, AVal.ro (Cont.ints IntKind.i64 ws) ws.length (1 : Nat), AVal.ro (Cont.ints IntKind.i64 cs) cs.length (1 : Nat)], ver := (0 : Nat) }, { c := BC.cells [AVal.own (5 : Nat) (0 : Nat) bs.length (0 : Nat) (1 : Nat)], ver := (0 : Nat) }, { c := BC.cells [AVal.int IntKind.i64 l], ver := (0 : Nat) }, { c := BC.cells [AVal.int IntKind.i64 u, AVal.int IntKind.i64 r, AVal.ro (Cont.ints IntKind.i64 ws) ws.length (1 : Nat), AVal.ro (Cont.ints IntKind.i64 cs) cs.length (1 : Nat)], ver := (0 : Nat) }, { c := BC.typ (Cont.ints IntKind.i64 xs), ver := (0 : Nat) }, { c := BC.typ (Cont.ints IntKind.i64 bs), ver := (0 : Nat) }])) := by kernel_rfl
theorem gset (xs : List Int) (k : Nat) (v : Int) (h : k < xs.length) : gz (xs.set k v) k = v := by rw [gz_eq (by simpa using h)]; simp
theorem loopB (u r : Int) (ws cs bs : List Int) (l N : Int) (f n i : Nat) (hi : i ≤ 100000) : ∀ (j n2 : Nat) (xs : List Int), xs.length ≤ 1000 → j ≤ xs.length → j < n2 →
    LB f n n2 (mkS 54 [(1, .fn 53 [.ptr 0 0 0, .ptr 1 0 0, .ptr 2 0 0]), (2, .ptr 3 0 0), (6, .own 4 0 xs.length 0 1), (7, .int .i64 ((j : Int) - 1)), (23, .int .i64 N), (24, .int .i64 i)] [⟨.cells [.int .i64 u, .int .i64 r, .ro (.ints .i64 ws) ws.length 1, .ro (.ints .i64 cs) cs.length 1], 0⟩, ⟨.cells [.own 5 0 bs.length 0 1], 0⟩, ⟨.cells [.int .i64 l], 0⟩, ⟨.cells [.int .i64 u, .int .i64 r, .ro (.ints .i64 ws) ws.length 1, .ro (.ints .i64 cs) cs.length 1], 0⟩, ⟨.typ (.ints .i64 xs), 0⟩, ⟨.typ (.ints .i64 bs), 0⟩]) = LA f n (mkS 54 [(1, .fn 53 [.ptr 0 0 0, .ptr 1 0 0, .ptr 2 0 0]), (2, .ptr 3 0 0), (6, .own 4 0 xs.length 0 1), (23, .int .i64 N), (24, .int .i64 ((i + 1 : Nat) : Int))] [⟨.cells [.int .i64 u, .int .i64 r, .ro (.ints .i64 ws) ws.length 1, .ro (.ints .i64 cs) cs.length 1], 0⟩, ⟨.cells [.own 5 0 bs.length 0 1], 0⟩, ⟨.cells [.int .i64 l], 0⟩, ⟨.cells [.int .i64 u, .int .i64 r, .ro (.ints .i64 ws) ws.length 1, .ro (.ints .i64 cs) cs.length 1], 0⟩, ⟨.typ (.ints .i64 (od.at.sv ws.length j xs)), 0⟩, ⟨.typ (.ints .i64 bs), 0⟩]) := by
  have wi : IntKind.i64.wrap ((i : Int) + 1) = ((i + 1 : Nat) : Int) := wrap_nat i (by omega)
  intro j
  induction j with
  | zero =>
    intro n2 xs hm hj hn
    obtain ⟨n2, rfl⟩ : ∃ k, n2 = k + 1 := ⟨n2 - 1, by omega⟩
    have c : ¬ ((0 : Int) ≤ ((0 : Nat) : Int) - 1) := by omega
    rw [roundB]
    simp -implicitDefEqProofs only [c, wi, od.at.sv, decide_true, decide_false, Bool.and_self, Bool.or_self, Bool.and_true, Bool.true_and, Bool.and_false, Bool.false_and, Bool.or_true, Bool.true_or, Bool.or_false, Bool.false_or, Bool.not_true, Bool.not_false, cond_true, cond_false]
  | succ j ih =>
    intro n2 xs hm hj hn
    obtain ⟨n2, rfl⟩ : ∃ k, n2 = k + 1 := ⟨n2 - 1, by omega⟩
    have e : (((j + 1 : Nat) : Int) - 1) = (j : Int) := by omega
    have j0 : (0 : Int) ≤ (j : Int) := Int.natCast_nonneg _
    have j1 : (j : Int) < (xs.length : Int) := by omega
    have j2 : j < xs.length := by omega
    have wj : IntKind.i64.wrap ((j : Int) - 1) = (j : Int) - 1 := IntWalk.i64_in _ (by omega)
    have hg := gset xs j (IntKind.i64.wrap (gz xs j + 1)) j2
    have hih := ih n2 ((xs.set j (IntKind.i64.wrap (gz xs j + 1))).set j 0) (by simp; exact hm) (by simp; omega) (by omega)
    rw [List.length_set, List.length_set] at hih
    rw [e, roundB]
    simp -implicitDefEqProofs only [od.at.sv, j0, j1, j2, wj, wi, hg, Int.toNat_natCast, List.length_set, decide_true, decide_false, Bool.and_self, Bool.or_self, Bool.and_true, Bool.true_and, Bool.and_false, Bool.false_and, Bool.or_true, Bool.true_or, Bool.or_false, Bool.false_or, Bool.not_true, Bool.not_false, cond_true, cond_false]
    cases decide (IntKind.i64.wrap (gz xs j + 1) < (ws.length : Int))
    · simp -implicitDefEqProofs only [decide_true, decide_false, Bool.and_self, Bool.or_self, Bool.and_true, Bool.true_and, Bool.and_false, Bool.false_and, Bool.or_true, Bool.true_or, Bool.or_false, Bool.false_or, Bool.not_true, Bool.not_false, cond_true, cond_false]; exact hih
    · simp -implicitDefEqProofs only [decide_true, decide_false, Bool.and_self, Bool.or_self, Bool.and_true, Bool.true_and, Bool.and_false, Bool.false_and, Bool.or_true, Bool.true_or, Bool.or_false, Bool.false_or, Bool.not_true, Bool.not_false, cond_true, cond_false]
theorem loopA (u r : Int) (ws cs : List Int) (N f : Nat) (hv : crowd.sp u r ws cs = true) (hN : N ≤ 4096) (hf : 2000 < f) : ∀ (d i n : Nat) (xs bs : List Int) (l : Int), (xs.length : Int) = u → bs.length = xs.length → od.Ok ws.length xs → (od.val ws.length xs + d = ws.length ^ xs.length ∨ (d = 0 ∧ xs = List.replicate xs.length 0)) → i + d = N → d < n →
    LA f n (mkS 54 [(1, .fn 53 [.ptr 0 0 0, .ptr 1 0 0, .ptr 2 0 0]), (2, .ptr 3 0 0), (6, .own 4 0 xs.length 0 1), (23, .int .i64 (N : Int)), (24, .int .i64 i)] [⟨.cells [.int .i64 u, .int .i64 r, .ro (.ints .i64 ws) ws.length 1, .ro (.ints .i64 cs) cs.length 1], 0⟩, ⟨.cells [.own 5 0 bs.length 0 1], 0⟩, ⟨.cells [.int .i64 l], 0⟩, ⟨.cells [.int .i64 u, .int .i64 r, .ro (.ints .i64 ws) ws.length 1, .ro (.ints .i64 cs) cs.length 1], 0⟩, ⟨.typ (.ints .i64 xs), 0⟩, ⟨.typ (.ints .i64 bs), 0⟩]) = some (.bool true, [⟨.cells [.int .i64 u, .int .i64 r, .ro (.ints .i64 ws) ws.length 1, .ro (.ints .i64 cs) cs.length 1], 0⟩, ⟨.cells [.own 5 0 xs.length 0 1], 0⟩, ⟨.cells [.int .i64 (od.many (od.T.sv u r ws cs) ws.length d xs bs l).2], 0⟩, ⟨.cells [.int .i64 u, .int .i64 r, .ro (.ints .i64 ws) ws.length 1, .ro (.ints .i64 cs) cs.length 1], 0⟩, ⟨.typ (.ints .i64 (List.replicate xs.length 0)), 0⟩, ⟨.typ (.ints .i64 (od.many (od.T.sv u r ws cs) ws.length d xs bs l).1), 0⟩]) := by
  obtain ⟨hu, hr, hw, hcs⟩ := od.crowd hv
  have hc64 := od.cs_le hv
  intro d
  induction d with
  | zero =>
    intro i n xs bs l hx hb ho hinv hi hn
    obtain ⟨n, rfl⟩ : ∃ k, n = k + 1 := ⟨n - 1, by omega⟩
    have hlt := od.val_lt ho
    have hz : xs = List.replicate xs.length 0 := by
      rcases hinv with h | h
      · omega
      · exact h.2
    obtain rfl : i = N := by omega
    rw [roundA]
    simp -implicitDefEqProofs only [od.many, Int.lt_irrefl, hb, decide_true, decide_false, Bool.and_self, Bool.or_self, Bool.and_true, Bool.true_and, Bool.and_false, Bool.false_and, Bool.or_true, Bool.true_or, Bool.or_false, Bool.false_or, Bool.not_true, Bool.not_false, cond_true, cond_false]
    rw [← hz]
  | succ d ih =>
    intro i n xs bs l hx hb ho hinv hi hn
    obtain ⟨n, rfl⟩ : ∃ k, n = k + 1 := ⟨n - 1, by omega⟩
    have hval : od.val ws.length xs + (d + 1) = ws.length ^ xs.length := by
      rcases hinv with h | h
      · exact h
      · omega
    have hnl := od.nx_length ws.length xs
    have hno := od.nx_ok (by omega) (by omega) ho
    have hinv2 : od.val ws.length (od.nx ws.length xs) + d = ws.length ^ (od.nx ws.length xs).length ∨ (d = 0 ∧ od.nx ws.length xs = List.replicate (od.nx ws.length xs).length 0) := by
      rw [hnl]
      by_cases hd : d = 0
      · right
        exact ⟨hd, od.nx_zero (by omega) (by omega) ho (by omega)⟩
      · left
        rw [od.nx_val (by omega) (by omega) ho (by omega)]
        omega
    have hup : (bif decide (od.T.sv u r ws cs xs < l) then (xs, od.T.sv u r ws cs xs) else (bs, l)) = od.up (od.T.sv u r ws cs) xs bs l := rfl
    have hul : (od.up (od.T.sv u r ws cs) xs bs l).1.length = xs.length := by
      unfold od.up
      cases decide (od.T.sv u r ws cs xs < l)
      · exact hb
      · rfl
    have q1 : (i : Int) < (N : Int) := by omega
    have q2 : 0 < xs.length := by omega
    have q3 : xs.length ≤ 1000 := by omega
    have q5 : ws.length ≤ 4611686018427387904 := by omega
    have q6 : cs.length ≤ 4611686018427387904 := by omega
    have hld := od.load hv hx ho
    have wm : IntKind.i64.wrap ((xs.length : Int) - 1) = (xs.length : Int) - 1 := IntWalk.i64_in _ (by omega)
    have hB := loopB u r ws cs (od.up (od.T.sv u r ws cs) xs bs l).1 (od.up (od.T.sv u r ws cs) xs bs l).2 N f n i (by omega) xs.length f xs q3 (Nat.le_refl _) (by omega)
    have hih := ih (i + 1) n (od.nx ws.length xs) (od.up (od.T.sv u r ws cs) xs bs l).1 (od.up (od.T.sv u r ws cs) xs bs l).2 (by rw [hnl]; exact hx) (by rw [hnl, hul]) hno hinv2 (by omega) (by omega)
    rw [hnl, hul] at hih
    rw [hul] at hB
    rw [roundA]
    simp -implicitDefEqProofs only [q1, q2, q3, q5, q6, hb, hld, wm, hup, od.many, Int.toNat_natCast, and_self, eq_self, decide_true, decide_false, Bool.and_self, Bool.or_self, Bool.and_true, Bool.true_and, Bool.and_false, Bool.false_and, Bool.or_true, Bool.true_or, Bool.or_false, Bool.false_or, Bool.not_true, Bool.not_false, cond_true, cond_false]
    exact hB.trans hih
theorem loopC (u : Nat) (r : Int) (ws cs : List Int) (l : Int) (f : Nat) (hu : 1 ≤ u ∧ u ≤ 8) (hw : 1 ≤ ws.length ∧ ws.length ≤ 8) (hfew : ws.length ^ u ≤ 4096) : ∀ (d i n : Nat), i + d = u → d < n →
    LC f n (mkS 54 [(1, .fn 53 [.ptr 0 0 0, .ptr 1 0 0, .ptr 2 0 0]), (2, .ptr 3 0 0), (5, .int .i64 ((ws.length ^ i : Nat) : Int)), (9, .int .i64 (u : Int)), (10, .int .i64 i)] [⟨.cells [.int .i64 (u : Int), .int .i64 r, .ro (.ints .i64 ws) ws.length 1, .ro (.ints .i64 cs) cs.length 1], 0⟩, ⟨.cells [.nils], 0⟩, ⟨.cells [.int .i64 l], 0⟩, ⟨.cells [.int .i64 (u : Int), .int .i64 r, .ro (.ints .i64 ws) ws.length 1, .ro (.ints .i64 cs) cs.length 1], 0⟩]) = LA f f (mkS 54 [(1, .fn 53 [.ptr 0 0 0, .ptr 1 0 0, .ptr 2 0 0]), (2, .ptr 3 0 0), (6, .own 4 0 u 0 1), (23, .int .i64 ((ws.length ^ u : Nat) : Int)), (24, .int .i64 0)] [⟨.cells [.int .i64 (u : Int), .int .i64 r, .ro (.ints .i64 ws) ws.length 1, .ro (.ints .i64 cs) cs.length 1], 0⟩, ⟨.cells [.nils], 0⟩, ⟨.cells [.int .i64 l], 0⟩, ⟨.cells [.int .i64 (u : Int), .int .i64 r, .ro (.ints .i64 ws) ws.length 1, .ro (.ints .i64 cs) cs.length 1], 0⟩, ⟨.typ (.ints .i64 (List.replicate u 0)), 0⟩]) := by
  intro d
  induction d with
  | zero =>
    intro i n hi hn
    obtain ⟨n, rfl⟩ : ∃ k, n = k + 1 := ⟨n - 1, by omega⟩
    obtain rfl : i = u := by omega
    have z1 : (0 : Int) ≤ (i : Int) := by omega
    have z2 : (i : Int) * 8 ≤ 140737488355328 := by omega
    have z3 : (i : Int) ≤ 4611686018427387904 := by omega
    have c : ¬ ((4096 : Int) < ((ws.length ^ i : Nat) : Int)) := by omega
    rw [roundC]
    simp -implicitDefEqProofs only [Int.lt_irrefl, c, z1, z2, z3, Int.toNat_natCast, beq_self_eq_true, decide_true, decide_false, Bool.and_self, Bool.or_self, Bool.and_true, Bool.true_and, Bool.and_false, Bool.false_and, Bool.or_true, Bool.true_or, Bool.or_false, Bool.false_or, Bool.not_true, Bool.not_false, cond_true, cond_false]
  | succ d ih =>
    intro i n hi hn
    obtain ⟨n, rfl⟩ : ∃ k, n = k + 1 := ⟨n - 1, by omega⟩
    have h1 : (i : Int) < (u : Int) := by omega
    have e : ((ws.length ^ i : Nat) : Int) * (ws.length : Int) = ((ws.length ^ (i + 1) : Nat) : Int) := by rw [Nat.pow_succ, Int.natCast_mul]
    have hle : ws.length ^ (i + 1) ≤ 8 ^ 8 := Nat.le_trans (Nat.pow_le_pow_left hw.2 _) (Nat.pow_le_pow_right (by omega) (by omega))
    have w1 : IntKind.i64.wrap ((ws.length ^ (i + 1) : Nat) : Int) = ((ws.length ^ (i + 1) : Nat) : Int) := IntWalk.i64_in _ (by omega)
    rw [roundC, e, w1, wrap_nat i (by omega)]
    simp -implicitDefEqProofs only [h1, decide_true, decide_false, Bool.and_self, Bool.or_self, Bool.and_true, Bool.true_and, Bool.and_false, Bool.false_and, Bool.or_true, Bool.true_or, Bool.or_false, Bool.false_or, Bool.not_true, Bool.not_false, cond_true, cond_false]
    exact ih (i + 1) n (by omega) (by omega)
theorem run : ∀ args H v new, R args H = some (true, v, new) → ∃ fuel, runFn Try.prog (orcW [⟨53, leastClo.R⟩] []) hd Dr.std none fuel (bodyOf Try.f52) 54 [4] args H = some (v, new) := by
  intro args H v new h
  unfold R at h
  split at h
  · rename_i u r ws mw cs mc ff u' r' ws' mw' cs' mc' l
    simp only [Option.some.injEq, Prod.mk.injEq, Bool.and_eq_true, decide_eq_true_eq, Bool.not_eq_true'] at h
    obtain ⟨⟨⟨e1, e2, h3, h4, e3, e4, e5, e6, e7, e8, e9⟩, hok⟩, rfl, rfl⟩ := h
    subst e4 e5 e6 e7 e1 e2 e8 e9 e3
    simp only [od.ok.sp, Bool.and_eq_true] at hok
    obtain ⟨hv, hf⟩ := hok
    have hcr := od.crowd hv
    obtain ⟨hu, hr, hw, hcs⟩ := hcr
    obtain ⟨U, hU⟩ : ∃ U : Nat, u' = U := ⟨u'.toNat, by omega⟩
    subst hU
    rw [Int.toNat_natCast] at hf
    have hf2 : ws'.length ^ U ≤ 4096 := by simpa only [od.few.sp, decide_eq_true_eq] using hf
    have hpos : 1 ≤ ws'.length ^ U := Nat.one_le_pow _ _ (by omega)
    have hzo := od.ok_zeros (W := ws'.length) (by omega) U
    obtain ⟨F, hF⟩ : ∃ F : Nat, F = 5000 := ⟨5000, rfl⟩
    refine ⟨F + 1, ?_⟩
    have hC := loopC U r' ws' cs' l (F + 1) (by omega) hw hf2 U 0 (F + 1) (by omega) (by omega)
    rw [Nat.pow_zero] at hC
    have hA0 := roundA0 (U : Int) r' ws' cs' (List.replicate U 0) l ((ws'.length ^ U : Nat) : Int) 0 (F + 1) F
    have hld := od.load hv (xs := List.replicate U 0) (by simp) hzo
    have q1 : ((0 : Nat) : Int) < ((ws'.length ^ U : Nat) : Int) := by omega
    have q2 : 0 < U := by omega
    have q3 : U ≤ 1000 := by omega
    have wm : IntKind.i64.wrap ((U : Int) - 1) = (U : Int) - 1 := IntWalk.i64_in _ (by omega)
    have hlen : (List.replicate U (0 : Int)).length = U := by simp
    simp -implicitDefEqProofs only [hlen, q1, q2, q3, h3, h4, hld, wm, Int.toNat_natCast, and_self, eq_self, decide_true, decide_false, Bool.and_self, Bool.or_self, Bool.and_true, Bool.true_and, Bool.and_false, Bool.false_and, Bool.or_true, Bool.true_or, Bool.or_false, Bool.false_or, Bool.not_true, Bool.not_false, cond_true, cond_false] at hA0
    have hB := loopB (U : Int) r' ws' cs' (List.replicate U 0) (od.T.sv (U : Int) r' ws' cs' (List.replicate U 0)) ((ws'.length ^ U : Nat) : Int) (F + 1) F 0 (by omega) U (F + 1) (List.replicate U 0) (by simp; omega) (by simp) (by omega)
    have hnl : od.at.sv ws'.length U (List.replicate U 0) = od.nx ws'.length (List.replicate U 0) := by unfold od.nx; rw [hlen]
    have hno := od.nx_ok (W := ws'.length) (by omega) (by omega) hzo
    have hnlen := od.nx_length ws'.length (List.replicate U 0)
    rw [hlen] at hnlen
    rw [hnl, hlen] at hB
    have hA := loopA (U : Int) r' ws' cs' (ws'.length ^ U) (F + 1) hv hf2 (by omega) (ws'.length ^ U - 1) 1 F (od.nx ws'.length (List.replicate U 0)) (List.replicate U 0) (od.T.sv (U : Int) r' ws' cs' (List.replicate U 0)) (by rw [hnlen]) (by rw [hnlen, hlen]) hno (by
      rw [hnlen]
      by_cases h1 : ws'.length ^ U = 1
      · right
        refine ⟨by omega, ?_⟩
        have := od.nx_zero (W := ws'.length) (by omega) (by omega) hzo (by rw [od.val_zeros, hlen, h1])
        rwa [hlen] at this
      · left
        rw [od.nx_val (by omega) (by omega) hzo (by rw [od.val_zeros, hlen]; omega), od.val_zeros]
        omega) (by omega) (by omega)
    rw [hnlen, hlen] at hA
    rw [start]
    simp -implicitDefEqProofs only [decide_true, decide_false, Bool.and_self, Bool.or_self, Bool.and_true, Bool.true_and, Bool.and_false, Bool.false_and, Bool.or_true, Bool.true_or, Bool.or_false, Bool.false_or, Bool.not_true, Bool.not_false, cond_true, cond_false]
    refine Eq.trans hC (Eq.trans hA0 (Eq.trans hB (Eq.trans hA ?_)))
    rfl
  · cases h
theorem ok : EntWOk Try.prog ⟨52, R⟩ :=
  entw_ok mixed (A := (orcW [⟨53, leastClo.R⟩] [])) (orcW_ok (by simp only [List.mem_cons, List.not_mem_nil, or_false, forall_eq_or_imp, forall_eq]; exact leastClo.ok) (by simp)) Try.func52 (by kernel_rfl) (by kernel_rfl) (n := 54) (ts := [4]) (hd := hd) (dr := Dr.std) (cut := none) (by kernel_rfl) (by kernel_rfl) (by kernel_rfl) run
end choices_t

namespace choices_f
def R : List AVal → Heap → Option (Bool × AVal × Heap)
  | [.agg [.int .i64 u, .int .i64 r, .ro (.ints .i64 ws) mw 1, .ro (.ints .i64 cs) mc 1], .fn ff [.ptr 0 0 0, .ptr 1 0 0, .ptr 2 0 0]], [⟨.cells [.int .i64 u', .int .i64 r', .ro (.ints .i64 ws') mw' 1, .ro (.ints .i64 cs') mc' 1], 0⟩, ⟨.cells [.nils], 0⟩, ⟨.cells [.int .i64 l], 0⟩] => some (decide (mw = ws.length ∧ mc = cs.length ∧ mw ≤ 4611686018427387904 ∧ mc ≤ 4611686018427387904 ∧ ff = 53 ∧ u' = u ∧ r' = r ∧ ws' = ws ∧ cs' = cs ∧ mw' = mw ∧ mc' = mc) && (crowd.sp u r ws cs && !od.few.sp u.toNat ws.length), .bool false, [⟨.cells [.int .i64 u, .int .i64 r, .ro (.ints .i64 ws) mw 1, .ro (.ints .i64 cs) mc 1], 0⟩, ⟨.cells [.nils], 0⟩, ⟨.cells [.int .i64 l], 0⟩])
  | _, _ => none
def hd : Nat → Head := fun i => bif eqN i 0 then ⟨[1, 2, 5, 9, 10], none⟩ else bif eqN i 2 then ⟨[1, 2, 6, 23, 24], none⟩ else ⟨[1, 2, 6, 7, 23, 24], none⟩
noncomputable def LC (f n : Nat) (s : State) := loopAt Try.prog (orc []) hd Dr.std 3 f (bodyOf Try.f52) 0 [true, true, false, true] (retK Try.prog [4] 3 (some 0)) n s
noncomputable def LA (f n : Nat) (s : State) := loopAt Try.prog (orc []) hd Dr.std 3 f (bodyOf Try.f52) 0 [true, true, true, true, true, false, true] (retK Try.prog [4] 3 (some 0)) n s
noncomputable def LB (f n n2 : Nat) (s : State) := loopAt Try.prog (orc []) hd Dr.std 3 f (bodyAt (bodyOf Try.f52) [true, true, true, true, true, false, true]) (curAt (bodyOf Try.f52) 0 [true, true, true, true, true, false, true]) [true, true, false, true, true] (iterK (normE 3 (hd (curAt (bodyOf Try.f52) 0 [true, true, true, true, true, false, true]))) (LA f n) (contAt Try.prog (orc []) hd Dr.std 3 f (bodyOf Try.f52) 0 [true, true, true, true, true, false, true] (retK Try.prog [4] 3 (some 0)))) n2 s
theorem start (u r : Int) (ws cs : List Int) (l : Int) (f : Nat) :
  runFn Try.prog (orc []) hd Dr.std (some 0) f (bodyOf Try.f52) 54 [4] [.agg [.int .i64 u, .int .i64 r, .ro (.ints .i64 ws) ws.length 1, .ro (.ints .i64 cs) cs.length 1], .fn 53 [.ptr 0 0 0, .ptr 1 0 0, .ptr 2 0 0]] [⟨.cells [.int .i64 u, .int .i64 r, .ro (.ints .i64 ws) ws.length 1, .ro (.ints .i64 cs) cs.length 1], 0⟩, ⟨.cells [.nils], 0⟩, ⟨.cells [.int .i64 l], 0⟩]
  = (bif true && (true && (true && true)) then bif true && true then LC f f (mkS (54 : Nat) [((1 : Nat), AVal.fn (53 : Nat) [AVal.ptr (0 : Nat) (0 : Nat) (0 : Nat), AVal.ptr (1 : Nat) (0 : Nat) (0 : Nat), AVal.ptr (2 : Nat) (0 : Nat) (0 : Nat)]), ((2 : Nat), AVal.ptr ((1 : Nat) + (1 : Nat) + (1 : Nat)) (0 : Nat) (0 : Nat)), ((5 : Nat), AVal.int IntKind.i64 (1 : Int)), ((9 : Nat), AVal.int IntKind.i64 u), ((10 : Nat), AVal.int IntKind.i64 (0 : Int))] [{ c := BC.cells [AVal.int IntKind.i64 u, AVal.int IntKind.i64 r, AVal.ro (Cont.ints IntKind.i64 ws) ws.length (1 : Nat), AVal.ro (Cont.ints IntKind.i64 cs) cs.length (1 : Nat)], ver := (0 : Nat) }, { c := BC.cells [AVal.nils], ver := (0 : Nat) }, { c := BC.cells [AVal.int IntKind.i64 l], ver := (0 : Nat) }, { c := BC.cells [AVal.int IntKind.i64 u, AVal.int IntKind.i64 r, AVal.ro (Cont.ints IntKind.i64 ws) ws.length (1 : Nat), AVal.ro (Cont.ints IntKind.i64 cs) cs.length (1 : Nat)], ver := (0 : Nat) }]) else none else none) := by kernel_rfl
theorem roundC (u r : Int) (ws cs : List Int) (l v : Int) (i f n : Nat) :
  LC f (n + 1) (mkS 54 [(1, .fn 53 [.ptr 0 0 0, .ptr 1 0 0, .ptr 2 0 0]), (2, .ptr 3 0 0), (5, .int .i64 v), (9, .int .i64 u), (10, .int .i64 i)] [⟨.cells [.int .i64 u, .int .i64 r, .ro (.ints .i64 ws) ws.length 1, .ro (.ints .i64 cs) cs.length 1], 0⟩, ⟨.cells [.nils], 0⟩, ⟨.cells [.int .i64 l], 0⟩, ⟨.cells [.int .i64 u, .int .i64 r, .ro (.ints .i64 ws) ws.length 1, .ro (.ints .i64 cs) cs.length 1], 0⟩])
  = (bif decide ((↑i : Int) < u) then bif true && true then LC f n (mkS (54 : Nat) [((1 : Nat), AVal.fn (53 : Nat) [AVal.ptr (0 : Nat) (0 : Nat) (0 : Nat), AVal.ptr (1 : Nat) (0 : Nat) (0 : Nat), AVal.ptr (2 : Nat) (0 : Nat) (0 : Nat)]), ((2 : Nat), AVal.ptr (3 : Nat) (0 : Nat) (0 : Nat)), ((5 : Nat), AVal.int IntKind.i64 (IntKind.i64.wrap (v * (↑ws.length : Int)))), ((9 : Nat), AVal.int IntKind.i64 u), ((10 : Nat), AVal.int IntKind.i64 (IntKind.i64.wrap ((↑i : Int) + (1 : Int))))] [{ c := BC.cells [AVal.int IntKind.i64 u, AVal.int IntKind.i64 r, AVal.ro (Cont.ints IntKind.i64 ws) ws.length (1 : Nat), AVal.ro (Cont.ints IntKind.i64 cs) cs.length (1 : Nat)], ver := (0 : Nat) }, { c := BC.cells [AVal.nils], ver := (0 : Nat) }, { c := BC.cells [AVal.int IntKind.i64 l], ver := (0 : Nat) }, { c := BC.cells [AVal.int IntKind.i64 u, AVal.int IntKind.i64 r, AVal.ro (Cont.ints IntKind.i64 ws) ws.length (1 : Nat), AVal.ro (Cont.ints IntKind.i64 cs) cs.length (1 : Nat)], ver := (0 : Nat) }]) else none else bif decide ((4096 : Int) < v) then some (AVal.bool false, [{ c := BC.cells [AVal.int IntKind.i64 u, AVal.int IntKind.i64 r, AVal.ro (Cont.ints IntKind.i64 ws) ws.length (1 : Nat), AVal.ro (Cont.ints IntKind.i64 cs) cs.length (1 : Nat)], ver := (0 : Nat) }, { c := BC.cells [AVal.nils], ver := (0 : Nat) }, { c := BC.cells [AVal.int IntKind.i64 l], ver := (0 : Nat) }]) else bif true && true then bif (1 : Nat) == (1 : Nat) && (u == u && (decide ((0 : Int) ≤ u) && (decide (u * (8 : Int) ≤ (140737488355328 : Int)) && decide (u ≤ (4611686018427387904 : Int))))) then LA f f (mkS (54 : Nat) [((1 : Nat), AVal.fn (53 : Nat) [AVal.ptr (0 : Nat) (0 : Nat) (0 : Nat), AVal.ptr (1 : Nat) (0 : Nat) (0 : Nat), AVal.ptr (2 : Nat) (0 : Nat) (0 : Nat)]), ((2 : Nat), AVal.ptr (3 : Nat) (0 : Nat) (0 : Nat)), ((6 : Nat), AVal.own ((1 : Nat) + (1 : Nat) + (1 : Nat) + (1 : Nat)) (0 : Nat) u.toNat (0 : Nat) (1 : Nat)), ((23 : Nat), AVal.int IntKind.i64 v), ((24 : Nat), AVal.int IntKind.i64 (0 : Int))] [{ c := BC.cells [AVal.int IntKind.i64 u, AVal.int IntKind.i64 r, AVal.ro (Cont.ints IntKind.i64 ws) ws.length (1 : Nat), AVal.ro (Cont.ints IntKind.i64 cs) cs.length (1 : Nat)], ver := (0 : Nat) }, { c := BC.cells [AVal.nils], ver := (0 : Nat) }, { c := BC.cells [AVal.int IntKind.i64 l], ver := (0 : Nat) }, { c := BC.cells [AVal.int IntKind.i64 u, AVal.int IntKind.i64 r, AVal.ro (Cont.ints IntKind.i64 ws) ws.length (1 : Nat), AVal.ro (Cont.ints IntKind.i64 cs) cs.length (1 : Nat)], ver := (0 : Nat) }, { c := BC.typ (Cont.ints IntKind.i64 (List.replicate u.toNat (0 : Int))), ver := (0 : Nat) }]) else none else none) := by kernel_rfl
theorem loopC (u : Nat) (r : Int) (ws cs : List Int) (l : Int) (f : Nat) (hu : 1 ≤ u ∧ u ≤ 8) (hw : 1 ≤ ws.length ∧ ws.length ≤ 8) (hfew : 4096 < ws.length ^ u) : ∀ (d i n : Nat), i + d = u → d < n →
    LC f n (mkS 54 [(1, .fn 53 [.ptr 0 0 0, .ptr 1 0 0, .ptr 2 0 0]), (2, .ptr 3 0 0), (5, .int .i64 ((ws.length ^ i : Nat) : Int)), (9, .int .i64 (u : Int)), (10, .int .i64 i)] [⟨.cells [.int .i64 (u : Int), .int .i64 r, .ro (.ints .i64 ws) ws.length 1, .ro (.ints .i64 cs) cs.length 1], 0⟩, ⟨.cells [.nils], 0⟩, ⟨.cells [.int .i64 l], 0⟩, ⟨.cells [.int .i64 (u : Int), .int .i64 r, .ro (.ints .i64 ws) ws.length 1, .ro (.ints .i64 cs) cs.length 1], 0⟩]) = some (.bool false, [⟨.cells [.int .i64 (u : Int), .int .i64 r, .ro (.ints .i64 ws) ws.length 1, .ro (.ints .i64 cs) cs.length 1], 0⟩, ⟨.cells [.nils], 0⟩, ⟨.cells [.int .i64 l], 0⟩]) := by
  intro d
  induction d with
  | zero =>
    intro i n hi hn
    obtain ⟨n, rfl⟩ : ∃ k, n = k + 1 := ⟨n - 1, by omega⟩
    obtain rfl : i = u := by omega
    have z1 : (0 : Int) ≤ (i : Int) := by omega
    have z2 : (i : Int) * 8 ≤ 140737488355328 := by omega
    have z3 : (i : Int) ≤ 4611686018427387904 := by omega
    have c : (4096 : Int) < ((ws.length ^ i : Nat) : Int) := by omega
    rw [roundC]
    simp -implicitDefEqProofs only [Int.lt_irrefl, c, z1, z2, z3, Int.toNat_natCast, beq_self_eq_true, decide_true, decide_false, Bool.and_self, Bool.or_self, Bool.and_true, Bool.true_and, Bool.and_false, Bool.false_and, Bool.or_true, Bool.true_or, Bool.or_false, Bool.false_or, Bool.not_true, Bool.not_false, cond_true, cond_false]
  | succ d ih =>
    intro i n hi hn
    obtain ⟨n, rfl⟩ : ∃ k, n = k + 1 := ⟨n - 1, by omega⟩
    have h1 : (i : Int) < (u : Int) := by omega
    have e : ((ws.length ^ i : Nat) : Int) * (ws.length : Int) = ((ws.length ^ (i + 1) : Nat) : Int) := by rw [Nat.pow_succ, Int.natCast_mul]
    have hle : ws.length ^ (i + 1) ≤ 8 ^ 8 := Nat.le_trans (Nat.pow_le_pow_left hw.2 _) (Nat.pow_le_pow_right (by omega) (by omega))
    have w1 : IntKind.i64.wrap ((ws.length ^ (i + 1) : Nat) : Int) = ((ws.length ^ (i + 1) : Nat) : Int) := IntWalk.i64_in _ (by omega)
    rw [roundC, e, w1, wrap_nat i (by omega)]
    simp -implicitDefEqProofs only [h1, decide_true, decide_false, Bool.and_self, Bool.or_self, Bool.and_true, Bool.true_and, Bool.and_false, Bool.false_and, Bool.or_true, Bool.true_or, Bool.or_false, Bool.false_or, Bool.not_true, Bool.not_false, cond_true, cond_false]
    exact ih (i + 1) n (by omega) (by omega)
theorem run : ∀ args H v new, R args H = some (true, v, new) → ∃ fuel, runFn Try.prog (orc []) hd Dr.std (some 0) fuel (bodyOf Try.f52) 54 [4] args H = some (v, new) := by
  intro args H v new h
  unfold R at h
  split at h
  · rename_i u r ws mw cs mc ff u' r' ws' mw' cs' mc' l
    simp only [Option.some.injEq, Prod.mk.injEq, Bool.and_eq_true, decide_eq_true_eq, Bool.not_eq_true'] at h
    obtain ⟨⟨⟨e1, e2, h3, h4, e3, e4, e5, e6, e7, e8, e9⟩, hv, hf⟩, rfl, rfl⟩ := h
    subst e4 e5 e6 e7 e1 e2 e8 e9 e3
    obtain ⟨hu, hr, hw, hcs⟩ := od.crowd hv
    obtain ⟨U, hU⟩ : ∃ U : Nat, u' = U := ⟨u'.toNat, by omega⟩
    subst hU
    rw [Int.toNat_natCast] at hf
    have hf2 : 4096 < ws'.length ^ U := by
      simp only [od.few.sp, decide_eq_false_iff_not] at hf; omega
    obtain ⟨F, hF⟩ : ∃ F : Nat, F = 100 := ⟨100, rfl⟩
    refine ⟨F, ?_⟩
    have hC := loopC U r' ws' cs' l F (by omega) hw hf2 U 0 F (by omega) (by omega)
    rw [Nat.pow_zero] at hC
    rw [start]
    simp -implicitDefEqProofs only [decide_true, decide_false, Bool.and_self, Bool.or_self, Bool.and_true, Bool.true_and, Bool.and_false, Bool.false_and, Bool.or_true, Bool.true_or, Bool.or_false, Bool.false_or, Bool.not_true, Bool.not_false, cond_true, cond_false]
    exact hC
  · cases h
theorem ok : EntWOk Try.prog ⟨52, R⟩ :=
  entw_ok mixed (A := (orc [])) (orc_ok (by simp)) Try.func52 (by kernel_rfl) (by kernel_rfl) (n := 54) (ts := [4]) (hd := hd) (dr := Dr.std) (cut := (some 0)) (by kernel_rfl) (by kernel_rfl) (by kernel_rfl) run
end choices_f

end Go.Proofs.Ytgeglpommdckgaa.Ab
