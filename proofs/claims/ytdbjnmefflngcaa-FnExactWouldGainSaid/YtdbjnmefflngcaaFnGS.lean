/-
  Functions: the most that a player would gain.
-/
import Derived.Test.YtdbjnmefflngcaaFnGR
namespace Go.Proofs.Ytdbjnmefflngcaa.Ab
open Go
set_option linter.unusedVariables false
set_option linter.unusedSimpArgs false
set_option maxRecDepth 100000

namespace sWouldGain
def R : List AVal → Option (Bool × AVal × List Blk)
  | [.agg [.int .i64 r, .int .i64 c, .ro (.ints .i64 xs) ma 1, .ro (.ints .i64 ys) mb 1], .ro (.flts .f32 az) mc 1, .ro (.flts .f32 bz) md 1] => some (decide (ma = xs.length ∧ mb = ys.length ∧ ma ≤ 4611686018427387904 ∧ mb ≤ 4611686018427387904 ∧ mc = az.length ∧ mc ≤ 4611686018427387904 ∧ md = bz.length ∧ md ≤ 4611686018427387904), .tup [.flt .f32 (wg.v.sv r c xs ys az bz), .bool (wg.sp r c xs ys az bz)], [])
  | _ => none
def hd : Nat → Head := fun i => bif eqN i 0 then ⟨[1, 2, 3, 6, 7, 8, 9, 11, 12], some 1⟩ else bif eqN i 2 then ⟨[1, 2, 3, 6, 7, 8, 9, 11, 12, 13, 14], some 1⟩ else bif eqN i 4 then ⟨[1, 3, 6, 7, 9, 11, 16], some 1⟩ else ⟨[1, 3, 6, 7, 9, 11, 16, 17, 18], some 1⟩
noncomputable def LA (f n : Nat) (s : State) := loopAt Try.prog (orc [⟨68, sGainsOf.R⟩, ⟨69, l01Finite.R⟩]) hd Dr.std 0 f (bodyOf Try.f19) 0 [true, true, true, true, false, true] (retK Try.prog [6, 7] 0 (some 0)) n s
noncomputable def LB (f n n2 : Nat) (s : State) := loopAt Try.prog (orc [⟨68, sGainsOf.R⟩, ⟨69, l01Finite.R⟩]) hd Dr.std 0 f (bodyAt (bodyOf Try.f19) [true, true, true, true, false, true]) (curAt (bodyOf Try.f19) 0 [true, true, true, true, false, true]) [true, false, true, false, true] (iterK (normE 0 (hd (curAt (bodyOf Try.f19) 0 [true, true, true, true, false, true]))) (LA f n) (contAt Try.prog (orc [⟨68, sGainsOf.R⟩, ⟨69, l01Finite.R⟩]) hd Dr.std 0 f (bodyOf Try.f19) 0 [true, true, true, true, false, true] (retK Try.prog [6, 7] 0 (some 0)))) n2 s
noncomputable def LC (f n : Nat) (s : State) := loopAt Try.prog (orc [⟨68, sGainsOf.R⟩, ⟨69, l01Finite.R⟩]) hd Dr.std 0 f (bodyOf Try.f19) 0 [true, true, true, true, true, false, true] (retK Try.prog [6, 7] 0 (some 0)) n s
noncomputable def LD (f n n2 : Nat) (s : State) := loopAt Try.prog (orc [⟨68, sGainsOf.R⟩, ⟨69, l01Finite.R⟩]) hd Dr.std 0 f (bodyAt (bodyOf Try.f19) [true, true, true, true, true, false, true]) (curAt (bodyOf Try.f19) 0 [true, true, true, true, true, false, true]) [true, false, true, false, true] (iterK (normE 0 (hd (curAt (bodyOf Try.f19) 0 [true, true, true, true, true, false, true]))) (LC f n) (contAt Try.prog (orc [⟨68, sGainsOf.R⟩, ⟨69, l01Finite.R⟩]) hd Dr.std 0 f (bodyOf Try.f19) 0 [true, true, true, true, true, false, true] (retK Try.prog [6, 7] 0 (some 0)))) n2 s
theorem start (r c : Int) (xs ys : List Int) (az bz : List Nat) (f : Nat) :
  runFn Try.prog (orc [⟨68, sGainsOf.R⟩, ⟨69, l01Finite.R⟩]) hd Dr.std (some 0) f (bodyOf Try.f19) 111 [6, 7] [.agg [.int .i64 r, .int .i64 c, .ro (.ints .i64 xs) xs.length 1, .ro (.ints .i64 ys) ys.length 1], .ro (.flts .f32 az) az.length 1, .ro (.flts .f32 bz) bz.length 1] []
  = (bif true && true && (true && true && (true && true && (true && true && true))) then bif decide (xs.length = xs.length ∧ ys.length = ys.length ∧ xs.length ≤ (4611686018427387904 : Nat) ∧ ys.length ≤ (4611686018427387904 : Nat) ∧ az.length = az.length ∧ az.length ≤ (4611686018427387904 : Nat) ∧ bz.length = bz.length ∧ bz.length ≤ (4611686018427387904 : Nat)) && (true && (true && (true && (true && true))) && (true && (true && true)) || true && (true && (true && true)) && true) then bif !wg.gok.sp r c xs ys az bz then some (AVal.tup [AVal.flt FloatKind.f32 (0 : Nat), AVal.bool false], []) else LA f f (mkS (111 : Nat) [((1 : Nat), AVal.ro (Cont.flts FloatKind.f32 az) az.length (1 : Nat)), ((2 : Nat), AVal.ro (Cont.flts FloatKind.f32 bz) bz.length (1 : Nat)), ((3 : Nat), AVal.ptr (0 : Nat) (0 : Nat) (0 : Nat)), ((6 : Nat), AVal.flt FloatKind.f32 (0 : Nat)), ((7 : Nat), AVal.bool false), ((8 : Nat), AVal.flt FloatKind.f32 (wg.ga.sv r c xs ys az bz)), ((9 : Nat), AVal.flt FloatKind.f32 (wg.gb.sv r c xs ys az bz)), ((11 : Nat), AVal.flt FloatKind.f32 (0 : Nat)), ((12 : Nat), AVal.int IntKind.i64 (0 : Int))] [{ c := BC.cells [AVal.int IntKind.i64 r, AVal.int IntKind.i64 c, AVal.ro (Cont.ints IntKind.i64 xs) xs.length (1 : Nat), AVal.ro (Cont.ints IntKind.i64 ys) ys.length (1 : Nat)], ver := (0 : Nat) }]) else none else none) := by kernel_rfl
theorem roundA (r c : Nat) (xs ys : List Int) (az bz : List Nat) (a b m i f n : Nat) :
  LA f (n + 1) (mkS 111 [(1, .ro (.flts .f32 az) az.length 1), (2, .ro (.flts .f32 bz) bz.length 1), (3, .ptr 0 0 0), (6, .flt .f32 0), (7, .bool false), (8, .flt .f32 a), (9, .flt .f32 b), (11, .flt .f32 m), (12, .int .i64 i)] [⟨.cells [.int .i64 r, .int .i64 c, .ro (.ints .i64 xs) xs.length 1, .ro (.ints .i64 ys) ys.length 1], 0⟩])
  = (bif true && true then bif decide ((↑i : Int) < (↑r : Int)) then LB f n f (mkS (111 : Nat) [((1 : Nat), AVal.ro (Cont.flts FloatKind.f32 az) az.length (1 : Nat)), ((2 : Nat), AVal.ro (Cont.flts FloatKind.f32 bz) bz.length (1 : Nat)), ((3 : Nat), AVal.ptr (0 : Nat) (0 : Nat) (0 : Nat)), ((6 : Nat), AVal.flt FloatKind.f32 (0 : Nat)), ((7 : Nat), AVal.bool false), ((8 : Nat), AVal.flt FloatKind.f32 a), ((9 : Nat), AVal.flt FloatKind.f32 b), ((11 : Nat), AVal.flt FloatKind.f32 m), ((12 : Nat), AVal.int IntKind.i64 (↑i : Int)), ((13 : Nat), AVal.flt FloatKind.f32 (0 : Nat)), ((14 : Nat), AVal.int IntKind.i64 (0 : Int))] [{ c := BC.cells [AVal.int IntKind.i64 (↑r : Int), AVal.int IntKind.i64 (↑c : Int), AVal.ro (Cont.ints IntKind.i64 xs) xs.length (1 : Nat), AVal.ro (Cont.ints IntKind.i64 ys) ys.length (1 : Nat)], ver := (0 : Nat) }]) else LC f f (mkS (111 : Nat) [((1 : Nat), AVal.ro (Cont.flts FloatKind.f32 az) az.length (1 : Nat)), ((3 : Nat), AVal.ptr (0 : Nat) (0 : Nat) (0 : Nat)), ((6 : Nat), AVal.flt FloatKind.f32 (0 : Nat)), ((7 : Nat), AVal.bool false), ((9 : Nat), AVal.flt FloatKind.f32 b), ((11 : Nat), AVal.flt FloatKind.f32 m), ((16 : Nat), AVal.int IntKind.i64 (0 : Int))] [{ c := BC.cells [AVal.int IntKind.i64 (↑r : Int), AVal.int IntKind.i64 (↑c : Int), AVal.ro (Cont.ints IntKind.i64 xs) xs.length (1 : Nat), AVal.ro (Cont.ints IntKind.i64 ys) ys.length (1 : Nat)], ver := (0 : Nat) }]) else none) := by kernel_rfl
theorem roundB (r c : Nat) (xs ys : List Int) (az bz : List Nat) (a b m i k s f n n2 : Nat) :
  LB f n (n2 + 1) (mkS 111 [(1, .ro (.flts .f32 az) az.length 1), (2, .ro (.flts .f32 bz) bz.length 1), (3, .ptr 0 0 0), (6, .flt .f32 0), (7, .bool false), (8, .flt .f32 a), (9, .flt .f32 b), (11, .flt .f32 m), (12, .int .i64 i), (13, .flt .f32 s), (14, .int .i64 k)] [⟨.cells [.int .i64 r, .int .i64 c, .ro (.ints .i64 xs) xs.length 1, .ro (.ints .i64 ys) ys.length 1], 0⟩])
  = (bif true && true then bif decide ((↑k : Int) < (↑c : Int)) then bif true && (decide ((0 : Int) ≤ (↑k : Int)) && decide ((↑k : Int) < (↑bz.length : Int))) then bif decide ((↑k : Int).toNat < bz.length) then bif true && true then bif true && true then bif true && (decide ((0 : Int) ≤ IntKind.i64.wrap (IntKind.i64.wrap ((↑i : Int) * (↑c : Int)) + (↑k : Int))) && decide (IntKind.i64.wrap (IntKind.i64.wrap ((↑i : Int) * (↑c : Int)) + (↑k : Int)) < (↑xs.length : Int))) then bif decide ((IntKind.i64.wrap (IntKind.i64.wrap ((↑i : Int) * (↑c : Int)) + (↑k : Int))).toNat < xs.length) then LB f n n2 (mkS (111 : Nat) [((1 : Nat), AVal.ro (Cont.flts FloatKind.f32 az) az.length (1 : Nat)), ((2 : Nat), AVal.ro (Cont.flts FloatKind.f32 bz) bz.length (1 : Nat)), ((3 : Nat), AVal.ptr (0 : Nat) (0 : Nat) (0 : Nat)), ((6 : Nat), AVal.flt FloatKind.f32 (0 : Nat)), ((7 : Nat), AVal.bool false), ((8 : Nat), AVal.flt FloatKind.f32 a), ((9 : Nat), AVal.flt FloatKind.f32 b), ((11 : Nat), AVal.flt FloatKind.f32 m), ((12 : Nat), AVal.int IntKind.i64 (↑i : Int)), ((13 : Nat), AVal.flt FloatKind.f32 (fadd FloatKind.f32 s (fmul FloatKind.f32 (gn bz (↑k : Int).toNat) (FloatKind.f32.nearest (gz xs (IntKind.i64.wrap (IntKind.i64.wrap ((↑i : Int) * (↑c : Int)) + (↑k : Int))).toNat))))), ((14 : Nat), AVal.int IntKind.i64 (IntKind.i64.wrap ((↑k : Int) + (1 : Int))))] [{ c := BC.cells [AVal.int IntKind.i64 (↑r : Int), AVal.int IntKind.i64 (↑c : Int), AVal.ro (Cont.ints IntKind.i64 xs) xs.length (1 : Nat), AVal.ro (Cont.ints IntKind.i64 ys) ys.length (1 : Nat)], ver := (0 : Nat) }]) else none else none else none else none else none else none else bif true && (true && true || true && true) then bif !flo.fin.sp (fsub FloatKind.f32 s a) then some (AVal.tup [AVal.flt FloatKind.f32 (0 : Nat), AVal.bool false], []) else bif FloatKind.f32.format.order (fsub FloatKind.f32 s a) m == some Ordering.gt then LA f n (mkS (111 : Nat) [((1 : Nat), AVal.ro (Cont.flts FloatKind.f32 az) az.length (1 : Nat)), ((2 : Nat), AVal.ro (Cont.flts FloatKind.f32 bz) bz.length (1 : Nat)), ((3 : Nat), AVal.ptr (0 : Nat) (0 : Nat) (0 : Nat)), ((6 : Nat), AVal.flt FloatKind.f32 (0 : Nat)), ((7 : Nat), AVal.bool false), ((8 : Nat), AVal.flt FloatKind.f32 a), ((9 : Nat), AVal.flt FloatKind.f32 b), ((11 : Nat), AVal.flt FloatKind.f32 (fsub FloatKind.f32 s a)), ((12 : Nat), AVal.int IntKind.i64 (IntKind.i64.wrap ((↑i : Int) + (1 : Int))))] [{ c := BC.cells [AVal.int IntKind.i64 (↑r : Int), AVal.int IntKind.i64 (↑c : Int), AVal.ro (Cont.ints IntKind.i64 xs) xs.length (1 : Nat), AVal.ro (Cont.ints IntKind.i64 ys) ys.length (1 : Nat)], ver := (0 : Nat) }]) else LA f n (mkS (111 : Nat) [((1 : Nat), AVal.ro (Cont.flts FloatKind.f32 az) az.length (1 : Nat)), ((2 : Nat), AVal.ro (Cont.flts FloatKind.f32 bz) bz.length (1 : Nat)), ((3 : Nat), AVal.ptr (0 : Nat) (0 : Nat) (0 : Nat)), ((6 : Nat), AVal.flt FloatKind.f32 (0 : Nat)), ((7 : Nat), AVal.bool false), ((8 : Nat), AVal.flt FloatKind.f32 a), ((9 : Nat), AVal.flt FloatKind.f32 b), ((11 : Nat), AVal.flt FloatKind.f32 m), ((12 : Nat), AVal.int IntKind.i64 (IntKind.i64.wrap ((↑i : Int) + (1 : Int))))] [{ c := BC.cells [AVal.int IntKind.i64 (↑r : Int), AVal.int IntKind.i64 (↑c : Int), AVal.ro (Cont.ints IntKind.i64 xs) xs.length (1 : Nat), AVal.ro (Cont.ints IntKind.i64 ys) ys.length (1 : Nat)], ver := (0 : Nat) }]) else none else none) := by kernel_rfl
theorem roundC (r c : Nat) (xs ys : List Int) (az bz : List Nat) (b m k f n : Nat) :
  LC f (n + 1) (mkS 111 [(1, .ro (.flts .f32 az) az.length 1), (3, .ptr 0 0 0), (6, .flt .f32 0), (7, .bool false), (9, .flt .f32 b), (11, .flt .f32 m), (16, .int .i64 k)] [⟨.cells [.int .i64 r, .int .i64 c, .ro (.ints .i64 xs) xs.length 1, .ro (.ints .i64 ys) ys.length 1], 0⟩])
  = (bif true && true then bif decide ((↑k : Int) < (↑c : Int)) then LD f n f (mkS (111 : Nat) [((1 : Nat), AVal.ro (Cont.flts FloatKind.f32 az) az.length (1 : Nat)), ((3 : Nat), AVal.ptr (0 : Nat) (0 : Nat) (0 : Nat)), ((6 : Nat), AVal.flt FloatKind.f32 (0 : Nat)), ((7 : Nat), AVal.bool false), ((9 : Nat), AVal.flt FloatKind.f32 b), ((11 : Nat), AVal.flt FloatKind.f32 m), ((16 : Nat), AVal.int IntKind.i64 (↑k : Int)), ((17 : Nat), AVal.flt FloatKind.f32 (0 : Nat)), ((18 : Nat), AVal.int IntKind.i64 (0 : Int))] [{ c := BC.cells [AVal.int IntKind.i64 (↑r : Int), AVal.int IntKind.i64 (↑c : Int), AVal.ro (Cont.ints IntKind.i64 xs) xs.length (1 : Nat), AVal.ro (Cont.ints IntKind.i64 ys) ys.length (1 : Nat)], ver := (0 : Nat) }]) else some (AVal.tup [AVal.flt FloatKind.f32 m, AVal.bool true], []) else none) := by kernel_rfl
theorem roundD (r c : Nat) (xs ys : List Int) (az bz : List Nat) (b m k i s f n n2 : Nat) :
  LD f n (n2 + 1) (mkS 111 [(1, .ro (.flts .f32 az) az.length 1), (3, .ptr 0 0 0), (6, .flt .f32 0), (7, .bool false), (9, .flt .f32 b), (11, .flt .f32 m), (16, .int .i64 k), (17, .flt .f32 s), (18, .int .i64 i)] [⟨.cells [.int .i64 r, .int .i64 c, .ro (.ints .i64 xs) xs.length 1, .ro (.ints .i64 ys) ys.length 1], 0⟩])
  = (bif true && true then bif decide ((↑i : Int) < (↑r : Int)) then bif true && (decide ((0 : Int) ≤ (↑i : Int)) && decide ((↑i : Int) < (↑az.length : Int))) then bif decide ((↑i : Int).toNat < az.length) then bif true && true then bif true && true then bif true && (decide ((0 : Int) ≤ IntKind.i64.wrap (IntKind.i64.wrap ((↑i : Int) * (↑c : Int)) + (↑k : Int))) && decide (IntKind.i64.wrap (IntKind.i64.wrap ((↑i : Int) * (↑c : Int)) + (↑k : Int)) < (↑ys.length : Int))) then bif decide ((IntKind.i64.wrap (IntKind.i64.wrap ((↑i : Int) * (↑c : Int)) + (↑k : Int))).toNat < ys.length) then LD f n n2 (mkS (111 : Nat) [((1 : Nat), AVal.ro (Cont.flts FloatKind.f32 az) az.length (1 : Nat)), ((3 : Nat), AVal.ptr (0 : Nat) (0 : Nat) (0 : Nat)), ((6 : Nat), AVal.flt FloatKind.f32 (0 : Nat)), ((7 : Nat), AVal.bool false), ((9 : Nat), AVal.flt FloatKind.f32 b), ((11 : Nat), AVal.flt FloatKind.f32 m), ((16 : Nat), AVal.int IntKind.i64 (↑k : Int)), ((17 : Nat), AVal.flt FloatKind.f32 (fadd FloatKind.f32 s (fmul FloatKind.f32 (gn az (↑i : Int).toNat) (FloatKind.f32.nearest (gz ys (IntKind.i64.wrap (IntKind.i64.wrap ((↑i : Int) * (↑c : Int)) + (↑k : Int))).toNat))))), ((18 : Nat), AVal.int IntKind.i64 (IntKind.i64.wrap ((↑i : Int) + (1 : Int))))] [{ c := BC.cells [AVal.int IntKind.i64 (↑r : Int), AVal.int IntKind.i64 (↑c : Int), AVal.ro (Cont.ints IntKind.i64 xs) xs.length (1 : Nat), AVal.ro (Cont.ints IntKind.i64 ys) ys.length (1 : Nat)], ver := (0 : Nat) }]) else none else none else none else none else none else none else bif true && (true && true || true && true) then bif !flo.fin.sp (fsub FloatKind.f32 s b) then some (AVal.tup [AVal.flt FloatKind.f32 (0 : Nat), AVal.bool false], []) else bif FloatKind.f32.format.order (fsub FloatKind.f32 s b) m == some Ordering.gt then LC f n (mkS (111 : Nat) [((1 : Nat), AVal.ro (Cont.flts FloatKind.f32 az) az.length (1 : Nat)), ((3 : Nat), AVal.ptr (0 : Nat) (0 : Nat) (0 : Nat)), ((6 : Nat), AVal.flt FloatKind.f32 (0 : Nat)), ((7 : Nat), AVal.bool false), ((9 : Nat), AVal.flt FloatKind.f32 b), ((11 : Nat), AVal.flt FloatKind.f32 (fsub FloatKind.f32 s b)), ((16 : Nat), AVal.int IntKind.i64 (IntKind.i64.wrap ((↑k : Int) + (1 : Int))))] [{ c := BC.cells [AVal.int IntKind.i64 (↑r : Int), AVal.int IntKind.i64 (↑c : Int), AVal.ro (Cont.ints IntKind.i64 xs) xs.length (1 : Nat), AVal.ro (Cont.ints IntKind.i64 ys) ys.length (1 : Nat)], ver := (0 : Nat) }]) else LC f n (mkS (111 : Nat) [((1 : Nat), AVal.ro (Cont.flts FloatKind.f32 az) az.length (1 : Nat)), ((3 : Nat), AVal.ptr (0 : Nat) (0 : Nat) (0 : Nat)), ((6 : Nat), AVal.flt FloatKind.f32 (0 : Nat)), ((7 : Nat), AVal.bool false), ((9 : Nat), AVal.flt FloatKind.f32 b), ((11 : Nat), AVal.flt FloatKind.f32 m), ((16 : Nat), AVal.int IntKind.i64 (IntKind.i64.wrap ((↑k : Int) + (1 : Int))))] [{ c := BC.cells [AVal.int IntKind.i64 (↑r : Int), AVal.int IntKind.i64 (↑c : Int), AVal.ro (Cont.ints IntKind.i64 xs) xs.length (1 : Nat), AVal.ro (Cont.ints IntKind.i64 ys) ys.length (1 : Nat)], ver := (0 : Nat) }]) else none else none) := by kernel_rfl
theorem innerB (r c : Nat) (xs ys : List Int) (az bz : List Nat) (f n a b i m : Nat) (hr : 1 ≤ r ∧ r ≤ 6) (hc : 1 ≤ c ∧ c ≤ 6) (hx : xs.length = r * c) (hy : ys.length = r * c) (la : az.length = r) (lb : bz.length = c) (hi : i < r) : ∀ (d k n2 s : Nat), k + d = c → d < n2 →
    LB f n n2 (mkS 111 [(1, .ro (.flts .f32 az) az.length 1), (2, .ro (.flts .f32 bz) bz.length 1), (3, .ptr 0 0 0), (6, .flt .f32 0), (7, .bool false), (8, .flt .f32 a), (9, .flt .f32 b), (11, .flt .f32 m), (12, .int .i64 i), (13, .flt .f32 s), (14, .int .i64 k)] [⟨.cells [.int .i64 r, .int .i64 c, .ro (.ints .i64 xs) xs.length 1, .ro (.ints .i64 ys) ys.length 1], 0⟩]) = bif !flo.fin.sp (fsub .f32 (wg.fs (wg.row c xs i) bz ((List.range c).drop k) s) a) then some (.tup [.flt .f32 0, .bool false], []) else bif wg.gt.sp (fsub .f32 (wg.fs (wg.row c xs i) bz ((List.range c).drop k) s) a) m then LA f n (mkS 111 [(1, .ro (.flts .f32 az) az.length 1), (2, .ro (.flts .f32 bz) bz.length 1), (3, .ptr 0 0 0), (6, .flt .f32 0), (7, .bool false), (8, .flt .f32 a), (9, .flt .f32 b), (11, .flt .f32 (fsub .f32 (wg.fs (wg.row c xs i) bz ((List.range c).drop k) s) a)), (12, .int .i64 ((i + 1 : Nat) : Int))] [⟨.cells [.int .i64 r, .int .i64 c, .ro (.ints .i64 xs) xs.length 1, .ro (.ints .i64 ys) ys.length 1], 0⟩]) else LA f n (mkS 111 [(1, .ro (.flts .f32 az) az.length 1), (2, .ro (.flts .f32 bz) bz.length 1), (3, .ptr 0 0 0), (6, .flt .f32 0), (7, .bool false), (8, .flt .f32 a), (9, .flt .f32 b), (11, .flt .f32 m), (12, .int .i64 ((i + 1 : Nat) : Int))] [⟨.cells [.int .i64 r, .int .i64 c, .ro (.ints .i64 xs) xs.length 1, .ro (.ints .i64 ys) ys.length 1], 0⟩]) := by
  have h36 := gm.le_36 hr.2 hc.2
  intro d
  induction d with
  | zero =>
    intro k n2 s hk hn
    obtain ⟨n2, rfl⟩ : ∃ k, n2 = k + 1 := ⟨n2 - 1, by omega⟩
    obtain rfl : k = c := by omega
    have e : (List.range k).drop k = [] := List.drop_of_length_le (by simp)
    have wv : IntKind.i64.wrap ((i : Int) + 1) = ((i + 1 : Nat) : Int) := wrap_nat i (by omega)
    have hG : ∀ x, (FloatKind.f32.format.order x m == some Ordering.gt) = wg.gt.sp x m := fun _ => rfl
    rw [roundB, e]
    simp -implicitDefEqProofs only [wg.fs, wv, hG, Int.lt_irrefl, decide_true, decide_false, Bool.and_self, Bool.or_self, Bool.and_true, Bool.true_and, Bool.and_false, Bool.false_and, Bool.or_true, Bool.true_or, Bool.or_false, Bool.false_or, Bool.not_true, Bool.not_false, cond_true, cond_false]
  | succ d ih =>
    intro k n2 s hk' hn
    obtain ⟨n2, rfl⟩ : ∃ k, n2 = k + 1 := ⟨n2 - 1, by omega⟩
    have hk : k < c := by omega
    have hlt := gm.ix_lt (R := r) (C := c) hi hk
    have i0 : (0 : Int) ≤ (i : Int) := Int.natCast_nonneg _
    have i1 : (i : Int) ≤ 100 := by omega
    have i2 : (i : Int) < (r : Int) := by omega
    have k0 : (0 : Int) ≤ (k : Int) := Int.natCast_nonneg _
    have k1 : (k : Int) ≤ 100 := by omega
    have k2 : (k : Int) < (c : Int) := by omega
    have em : (i : Int) * (c : Int) = ((i * c : Nat) : Int) := by simp
    have ee : ((i * c : Nat) : Int) + (k : Int) = ((i * c + k : Nat) : Int) := by simp
    have lx : ((i * c + k : Nat) : Int) < (xs.length : Int) := by omega
    have lx2 : i * c + k < xs.length := by omega
    have ly : ((i * c + k : Nat) : Int) < (ys.length : Int) := by omega
    have ly2 : i * c + k < ys.length := by omega
    have p0 : (0 : Int) ≤ ((i * c + k : Nat) : Int) := Int.natCast_nonneg _
    have w1 : IntKind.i64.wrap ((i * c : Nat) : Int) = ((i * c : Nat) : Int) := IntWalk.i64_in _ (by omega)
    have w2 : IntKind.i64.wrap ((i * c + k : Nat) : Int) = ((i * c + k : Nat) : Int) := IntWalk.i64_in _ (by omega)
    have c0 : (0 : Int) ≤ (c : Int) := Int.natCast_nonneg _
    have c1 : (c : Int) ≤ 100 := by omega
    have wk : IntKind.i64.wrap ((k : Int) + 1) = ((k + 1 : Nat) : Int) := wrap_nat k (by omega)
    have wi : IntKind.i64.wrap ((i : Int) + 1) = ((i + 1 : Nat) : Int) := wrap_nat i (by omega)
    have bl : k < bz.length := by omega
    have bl2 : (k : Int) < (bz.length : Int) := by omega
    have hih := ih (k + 1) n2 (fadd .f32 s (fmul .f32 (gn bz k) (FloatKind.f32.nearest (gz xs (i * c + k))))) (by omega) (by omega)
    have hw : wg.row c xs i k = gz xs (i * c + k) := rfl
    rw [roundB, wg.drop_range hk]
    simp -implicitDefEqProofs only [wg.fs, hw, bl, bl2, em, ee, w1, w2, lx, lx2, ly, ly2, p0, i0, i1, i2, k0, k1, k2, c0, c1, wk, wi, Int.toNat_natCast, and_self, eq_self, decide_true, decide_false, Bool.and_self, Bool.or_self, Bool.and_true, Bool.true_and, Bool.and_false, Bool.false_and, Bool.or_true, Bool.true_or, Bool.or_false, Bool.false_or, Bool.not_true, Bool.not_false, cond_true, cond_false]
    exact hih
theorem innerD (r c : Nat) (xs ys : List Int) (az bz : List Nat) (f n b k m : Nat) (hr : 1 ≤ r ∧ r ≤ 6) (hc : 1 ≤ c ∧ c ≤ 6) (hx : xs.length = r * c) (hy : ys.length = r * c) (la : az.length = r) (lb : bz.length = c) (hk : k < c) : ∀ (d i n2 s : Nat), i + d = r → d < n2 →
    LD f n n2 (mkS 111 [(1, .ro (.flts .f32 az) az.length 1), (3, .ptr 0 0 0), (6, .flt .f32 0), (7, .bool false), (9, .flt .f32 b), (11, .flt .f32 m), (16, .int .i64 k), (17, .flt .f32 s), (18, .int .i64 i)] [⟨.cells [.int .i64 r, .int .i64 c, .ro (.ints .i64 xs) xs.length 1, .ro (.ints .i64 ys) ys.length 1], 0⟩]) = bif !flo.fin.sp (fsub .f32 (wg.fs (wg.col c ys k) az ((List.range r).drop i) s) b) then some (.tup [.flt .f32 0, .bool false], []) else bif wg.gt.sp (fsub .f32 (wg.fs (wg.col c ys k) az ((List.range r).drop i) s) b) m then LC f n (mkS 111 [(1, .ro (.flts .f32 az) az.length 1), (3, .ptr 0 0 0), (6, .flt .f32 0), (7, .bool false), (9, .flt .f32 b), (11, .flt .f32 (fsub .f32 (wg.fs (wg.col c ys k) az ((List.range r).drop i) s) b)), (16, .int .i64 ((k + 1 : Nat) : Int))] [⟨.cells [.int .i64 r, .int .i64 c, .ro (.ints .i64 xs) xs.length 1, .ro (.ints .i64 ys) ys.length 1], 0⟩]) else LC f n (mkS 111 [(1, .ro (.flts .f32 az) az.length 1), (3, .ptr 0 0 0), (6, .flt .f32 0), (7, .bool false), (9, .flt .f32 b), (11, .flt .f32 m), (16, .int .i64 ((k + 1 : Nat) : Int))] [⟨.cells [.int .i64 r, .int .i64 c, .ro (.ints .i64 xs) xs.length 1, .ro (.ints .i64 ys) ys.length 1], 0⟩]) := by
  have h36 := gm.le_36 hr.2 hc.2
  intro d
  induction d with
  | zero =>
    intro i n2 s hk hn
    obtain ⟨n2, rfl⟩ : ∃ k, n2 = k + 1 := ⟨n2 - 1, by omega⟩
    obtain rfl : i = r := by omega
    have e : (List.range i).drop i = [] := List.drop_of_length_le (by simp)
    have wv : IntKind.i64.wrap ((k : Int) + 1) = ((k + 1 : Nat) : Int) := wrap_nat k (by omega)
    have hG : ∀ x, (FloatKind.f32.format.order x m == some Ordering.gt) = wg.gt.sp x m := fun _ => rfl
    rw [roundD (bz := bz), e]
    simp -implicitDefEqProofs only [wg.fs, wv, hG, Int.lt_irrefl, decide_true, decide_false, Bool.and_self, Bool.or_self, Bool.and_true, Bool.true_and, Bool.and_false, Bool.false_and, Bool.or_true, Bool.true_or, Bool.or_false, Bool.false_or, Bool.not_true, Bool.not_false, cond_true, cond_false]
  | succ d ih =>
    intro i n2 s hk' hn
    obtain ⟨n2, rfl⟩ : ∃ k, n2 = k + 1 := ⟨n2 - 1, by omega⟩
    have hi : i < r := by omega
    have hlt := gm.ix_lt (R := r) (C := c) hi hk
    have i0 : (0 : Int) ≤ (i : Int) := Int.natCast_nonneg _
    have i1 : (i : Int) ≤ 100 := by omega
    have i2 : (i : Int) < (r : Int) := by omega
    have k0 : (0 : Int) ≤ (k : Int) := Int.natCast_nonneg _
    have k1 : (k : Int) ≤ 100 := by omega
    have k2 : (k : Int) < (c : Int) := by omega
    have em : (i : Int) * (c : Int) = ((i * c : Nat) : Int) := by simp
    have ee : ((i * c : Nat) : Int) + (k : Int) = ((i * c + k : Nat) : Int) := by simp
    have lx : ((i * c + k : Nat) : Int) < (xs.length : Int) := by omega
    have lx2 : i * c + k < xs.length := by omega
    have ly : ((i * c + k : Nat) : Int) < (ys.length : Int) := by omega
    have ly2 : i * c + k < ys.length := by omega
    have p0 : (0 : Int) ≤ ((i * c + k : Nat) : Int) := Int.natCast_nonneg _
    have w1 : IntKind.i64.wrap ((i * c : Nat) : Int) = ((i * c : Nat) : Int) := IntWalk.i64_in _ (by omega)
    have w2 : IntKind.i64.wrap ((i * c + k : Nat) : Int) = ((i * c + k : Nat) : Int) := IntWalk.i64_in _ (by omega)
    have c0 : (0 : Int) ≤ (c : Int) := Int.natCast_nonneg _
    have c1 : (c : Int) ≤ 100 := by omega
    have wk : IntKind.i64.wrap ((k : Int) + 1) = ((k + 1 : Nat) : Int) := wrap_nat k (by omega)
    have wi : IntKind.i64.wrap ((i : Int) + 1) = ((i + 1 : Nat) : Int) := wrap_nat i (by omega)
    have bl : i < az.length := by omega
    have bl2 : (i : Int) < (az.length : Int) := by omega
    have hih := ih (i + 1) n2 (fadd .f32 s (fmul .f32 (gn az i) (FloatKind.f32.nearest (gz ys (i * c + k))))) (by omega) (by omega)
    have hw : wg.col c ys k i = gz ys (i * c + k) := rfl
    rw [roundD (bz := bz), wg.drop_range hi]
    simp -implicitDefEqProofs only [wg.fs, hw, bl, bl2, em, ee, w1, w2, lx, lx2, ly, ly2, p0, i0, i1, i2, k0, k1, k2, c0, c1, wk, wi, Int.toNat_natCast, and_self, eq_self, decide_true, decide_false, Bool.and_self, Bool.or_self, Bool.and_true, Bool.true_and, Bool.and_false, Bool.false_and, Bool.or_true, Bool.true_or, Bool.or_false, Bool.false_or, Bool.not_true, Bool.not_false, cond_true, cond_false]
    exact hih
theorem outerA (r c : Nat) (xs ys : List Int) (az bz : List Nat) (f : Nat) (a b : Nat) (hr : 1 ≤ r ∧ r ≤ 6) (hc : 1 ≤ c ∧ c ≤ 6) (hx : xs.length = r * c) (hy : ys.length = r * c) (la : az.length = r) (lb : bz.length = c) (hf : r + c < f) : ∀ (d i n m : Nat), i + d = r → d < n →
    LA f n (mkS 111 [(1, .ro (.flts .f32 az) az.length 1), (2, .ro (.flts .f32 bz) bz.length 1), (3, .ptr 0 0 0), (6, .flt .f32 0), (7, .bool false), (8, .flt .f32 a), (9, .flt .f32 b), (11, .flt .f32 m), (12, .int .i64 i)] [⟨.cells [.int .i64 r, .int .i64 c, .ro (.ints .i64 xs) xs.length 1, .ro (.ints .i64 ys) ys.length 1], 0⟩]) = bif wg.fins (wg.FR c xs bz a) ((List.range r).drop i) then LC f f (mkS 111 [(1, .ro (.flts .f32 az) az.length 1), (3, .ptr 0 0 0), (6, .flt .f32 0), (7, .bool false), (9, .flt .f32 b), (11, .flt .f32 (wg.most (wg.FR c xs bz a) ((List.range r).drop i) m)), (16, .int .i64 0)] [⟨.cells [.int .i64 r, .int .i64 c, .ro (.ints .i64 xs) xs.length 1, .ro (.ints .i64 ys) ys.length 1], 0⟩]) else some (.tup [.flt .f32 0, .bool false], []) := by
  intro d
  induction d with
  | zero =>
    intro i n m hi hn
    obtain ⟨n, rfl⟩ : ∃ k, n = k + 1 := ⟨n - 1, by omega⟩
    obtain rfl : i = r := by omega
    have e : (List.range i).drop i = [] := List.drop_of_length_le (by simp)
    have e2 : ∀ G, wg.fins G [] = true := fun _ => rfl
    rw [roundA, e]
    simp -implicitDefEqProofs only [wg.most, e2, Int.lt_irrefl, decide_true, decide_false, Bool.and_self, Bool.or_self, Bool.and_true, Bool.true_and, Bool.and_false, Bool.false_and, Bool.or_true, Bool.true_or, Bool.or_false, Bool.false_or, Bool.not_true, Bool.not_false, cond_true, cond_false]
  | succ d ih =>
    intro i n m hi' hn
    obtain ⟨n, rfl⟩ : ∃ k, n = k + 1 := ⟨n - 1, by omega⟩
    have hi : i < r := by omega
    have hi5 : (i : Int) < (r : Int) := by omega
    have hin := innerB r c xs ys az bz f n a b i m hr hc hx hy la lb hi c 0 f 0 (by omega) (by omega)
    rw [List.drop_zero] at hin
    have hF : fsub .f32 (wg.fs (wg.row c xs i) bz (List.range c) 0) a = (wg.FR c xs bz a) i := rfl
    rw [hF] at hin
    rw [roundA, wg.drop_range hi]
    simp -implicitDefEqProofs only [wg.fins_cons, wg.most, hi5, decide_true, decide_false, Bool.and_self, Bool.or_self, Bool.and_true, Bool.true_and, Bool.and_false, Bool.false_and, Bool.or_true, Bool.true_or, Bool.or_false, Bool.false_or, Bool.not_true, Bool.not_false, cond_true, cond_false]
    refine Eq.trans hin ?_
    have hT := ih (i + 1) n m (by omega) (by omega)
    have hM := ih (i + 1) n ((wg.FR c xs bz a) i) (by omega) (by omega)
    generalize hb1 : wg.gt.sp ((wg.FR c xs bz a) i) m = b1
    cases hf : flo.fin.sp ((wg.FR c xs bz a) i)
    · rfl
    · cases b1 <;> simp -implicitDefEqProofs only [decide_true, decide_false, Bool.and_self, Bool.or_self, Bool.and_true, Bool.true_and, Bool.and_false, Bool.false_and, Bool.or_true, Bool.true_or, Bool.or_false, Bool.false_or, Bool.not_true, Bool.not_false, cond_true, cond_false]
      · exact hT
      · exact hM
theorem outerC (r c : Nat) (xs ys : List Int) (az bz : List Nat) (f : Nat) (b : Nat) (hr : 1 ≤ r ∧ r ≤ 6) (hc : 1 ≤ c ∧ c ≤ 6) (hx : xs.length = r * c) (hy : ys.length = r * c) (la : az.length = r) (lb : bz.length = c) (hf : r + c < f) : ∀ (d k n m : Nat), k + d = c → d < n →
    LC f n (mkS 111 [(1, .ro (.flts .f32 az) az.length 1), (3, .ptr 0 0 0), (6, .flt .f32 0), (7, .bool false), (9, .flt .f32 b), (11, .flt .f32 m), (16, .int .i64 k)] [⟨.cells [.int .i64 r, .int .i64 c, .ro (.ints .i64 xs) xs.length 1, .ro (.ints .i64 ys) ys.length 1], 0⟩]) = bif wg.fins (wg.FC r c ys az b) ((List.range c).drop k) then some (.tup [.flt .f32 (wg.most (wg.FC r c ys az b) ((List.range c).drop k) m), .bool true], []) else some (.tup [.flt .f32 0, .bool false], []) := by
  intro d
  induction d with
  | zero =>
    intro k n m hi hn
    obtain ⟨n, rfl⟩ : ∃ k, n = k + 1 := ⟨n - 1, by omega⟩
    obtain rfl : k = c := by omega
    have e : (List.range k).drop k = [] := List.drop_of_length_le (by simp)
    have e2 : ∀ G, wg.fins G [] = true := fun _ => rfl
    rw [roundC (bz := bz), e]
    simp -implicitDefEqProofs only [wg.most, e2, Int.lt_irrefl, decide_true, decide_false, Bool.and_self, Bool.or_self, Bool.and_true, Bool.true_and, Bool.and_false, Bool.false_and, Bool.or_true, Bool.true_or, Bool.or_false, Bool.false_or, Bool.not_true, Bool.not_false, cond_true, cond_false]
  | succ d ih =>
    intro k n m hi' hn
    obtain ⟨n, rfl⟩ : ∃ k, n = k + 1 := ⟨n - 1, by omega⟩
    have hk : k < c := by omega
    have hk5 : (k : Int) < (c : Int) := by omega
    have hin := innerD r c xs ys az bz f n b k m hr hc hx hy la lb hk r 0 f 0 (by omega) (by omega)
    rw [List.drop_zero] at hin
    have hF : fsub .f32 (wg.fs (wg.col c ys k) az (List.range r) 0) b = (wg.FC r c ys az b) k := rfl
    rw [hF] at hin
    rw [roundC (bz := bz), wg.drop_range hk]
    simp -implicitDefEqProofs only [wg.fins_cons, wg.most, hk5, decide_true, decide_false, Bool.and_self, Bool.or_self, Bool.and_true, Bool.true_and, Bool.and_false, Bool.false_and, Bool.or_true, Bool.true_or, Bool.or_false, Bool.false_or, Bool.not_true, Bool.not_false, cond_true, cond_false]
    refine Eq.trans hin ?_
    have hT := ih (k + 1) n m (by omega) (by omega)
    have hM := ih (k + 1) n ((wg.FC r c ys az b) k) (by omega) (by omega)
    generalize hb1 : wg.gt.sp ((wg.FC r c ys az b) k) m = b1
    cases hf : flo.fin.sp ((wg.FC r c ys az b) k)
    · rfl
    · cases b1 <;> simp -implicitDefEqProofs only [decide_true, decide_false, Bool.and_self, Bool.or_self, Bool.and_true, Bool.true_and, Bool.and_false, Bool.false_and, Bool.or_true, Bool.true_or, Bool.or_false, Bool.false_or, Bool.not_true, Bool.not_false, cond_true, cond_false]
      · exact hT
      · exact hM
theorem run : ∀ args v new, R args = some (true, v, new) → ∃ fuel, runFn Try.prog (orc [⟨68, sGainsOf.R⟩, ⟨69, l01Finite.R⟩]) hd Dr.std (some 0) fuel (bodyOf Try.f19) 111 [6, 7] args [] = some (v, new) := by
  intro args v new h
  unfold R at h
  split at h
  · rename_i r c xs ma ys mb az mc bz md
    simp only [Option.some.injEq, Prod.mk.injEq, Bool.and_eq_true, decide_eq_true_eq, Bool.not_eq_true'] at h
    obtain ⟨⟨rfl, rfl, h3, h4, rfl, h6, rfl, h8⟩, rfl, rfl⟩ := h
    obtain ⟨F, hF⟩ : ∃ F : Nat, F = 100 := ⟨100, rfl⟩
    refine ⟨F, ?_⟩
    rw [start]
    cases hg : wg.gok.sp r c xs ys az bz
    · have ho : wg.sp r c xs ys az bz = false := by simp [wg.sp, hg]
      simp only [wg.v.sv, ho, cond_false]
      simp -implicitDefEqProofs only [h3, h4, h6, h8, hg, Nat.le_refl, and_self, eq_self, decide_true, decide_false, Bool.and_self, Bool.or_self, Bool.and_true, Bool.true_and, Bool.and_false, Bool.false_and, Bool.or_true, Bool.true_or, Bool.or_false, Bool.false_or, Bool.not_true, Bool.not_false, cond_true, cond_false]
    · have hch : wg.ch.sp r c xs ys az bz = true := by
        unfold wg.gok.sp at hg
        simp only [Bool.and_eq_true] at hg
        exact hg.1
      obtain ⟨hv, ha, hb⟩ := wg.ch_valid hch
      have hv2 := hv
      obtain ⟨r, c, rfl, rfl, hr, hc, hx, hy, vx, vy⟩ := gm.valid hv2
      unfold wg.v.sv wg.sp
      rw [hg]
      generalize wg.ga.sv (r : Int) (c : Int) xs ys az bz = A
      generalize wg.gb.sv (r : Int) (c : Int) xs ys az bz = B
      simp -implicitDefEqProofs only [h3, h4, h6, h8, Int.toNat_natCast, and_self, eq_self, decide_true, decide_false, Bool.and_self, Bool.or_self, Bool.and_true, Bool.true_and, Bool.and_false, Bool.false_and, Bool.or_true, Bool.true_or, Bool.or_false, Bool.false_or, Bool.not_true, Bool.not_false, cond_true, cond_false]
      have hl := outerA r c xs ys az bz F A B hr hc hx hy (by omega) (by omega) (by omega) r 0 F 0 (by omega) (by omega)
      have hl2 := outerC r c xs ys az bz F B hr hc hx hy (by omega) (by omega) (by omega) c 0 F (wg.mst.sv (wg.FR c xs bz A) r 0) (by omega) (by omega)
      rw [List.drop_zero] at hl hl2
      have e1 : wg.fins (wg.FR c xs bz A) (List.range r) = wg.fin.sp (wg.FR c xs bz A) r := rfl
      have e2 : wg.fins (wg.FC r c ys az B) (List.range c) = wg.fin.sp (wg.FC r c ys az B) c := rfl
      have e3 : wg.most (wg.FR c xs bz A) (List.range r) 0 = wg.mst.sv (wg.FR c xs bz A) r 0 := rfl
      have e4 : wg.most (wg.FC r c ys az B) (List.range c) (wg.mst.sv (wg.FR c xs bz A) r 0) = wg.mst.sv (wg.FC r c ys az B) c (wg.mst.sv (wg.FR c xs bz A) r 0) := rfl
      rw [e1, e3] at hl
      rw [e2, e4] at hl2
      refine Eq.trans hl ?_
      cases wg.fin.sp (wg.FR c xs bz A) r
      · rfl
      · simp -implicitDefEqProofs only [decide_true, decide_false, Bool.and_self, Bool.or_self, Bool.and_true, Bool.true_and, Bool.and_false, Bool.false_and, Bool.or_true, Bool.true_or, Bool.or_false, Bool.false_or, Bool.not_true, Bool.not_false, cond_true, cond_false]
        refine Eq.trans hl2 ?_
        cases wg.fin.sp (wg.FC r c ys az B) c <;> rfl
  · cases h
theorem ok : EntOk Try.prog ⟨19, R⟩ :=
  ent_okA mixed (A := (orc [⟨68, sGainsOf.R⟩, ⟨69, l01Finite.R⟩])) (orc_ok (by simp only [List.mem_cons, List.not_mem_nil, or_false, forall_eq_or_imp, forall_eq]; exact ⟨sGainsOf.ok, l01Finite.ok⟩)) Try.func19 (by kernel_rfl) (by kernel_rfl) (n := 111) (ts := [6, 7]) (hd := hd) (dr := Dr.std) (cut := (some 0)) (by kernel_rfl) (by kernel_rfl) (by kernel_rfl) run
end sWouldGain

namespace iWouldGain
def R : List AVal → Option (Bool × AVal × List Blk)
  | [.agg [.int .i64 r, .int .i64 c, .ro (.ints .i64 xs) ma 1, .ro (.ints .i64 ys) mb 1], .ro (.flts .f32 az) mc 1, .ro (.flts .f32 bz) md 1] => some (decide (ma = xs.length ∧ mb = ys.length ∧ ma ≤ 4611686018427387904 ∧ mb ≤ 4611686018427387904 ∧ mc = az.length ∧ mc ≤ 4611686018427387904 ∧ md = bz.length ∧ md ≤ 4611686018427387904), .tup [.flt .f32 (wg.v.sv r c xs ys az bz), .bool (wg.sp r c xs ys az bz)], [])
  | _ => none
theorem go (r c : Int) (xs ys : List Int) (az bz : List Nat) :
  runFn Try.prog (orcW [⟨70, look.R⟩] [⟨57, iGainsOf.R⟩, ⟨66, turnedL.R⟩]) hd0 Dr.std (some 0) 0 (bodyOf Try.f21) 38 [6, 7] [.agg [.int .i64 r, .int .i64 c, .ro (.ints .i64 xs) xs.length 1, .ro (.ints .i64 ys) ys.length 1], .ro (.flts .f32 az) az.length 1, .ro (.flts .f32 bz) bz.length 1] []
  = (bif true && true && (true && true && (true && true && (true && true && true))) then bif decide (xs.length = xs.length ∧ ys.length = ys.length ∧ xs.length ≤ (4611686018427387904 : Nat) ∧ ys.length ≤ (4611686018427387904 : Nat) ∧ az.length = az.length ∧ az.length ≤ (4611686018427387904 : Nat) ∧ bz.length = bz.length ∧ bz.length ≤ (4611686018427387904 : Nat)) && (true && (true && (true && (true && true))) && (true && (true && true)) || true && (true && (true && true)) && true) then bif true && (true && (true && true)) then bif true && true then bif !wg.gok.sp r c xs ys az bz then some (AVal.tup [AVal.flt FloatKind.f32 (0 : Nat), AVal.bool false], []) else bif true && true && (true && true && (true && true && (true && true && true))) then bif decide (xs.length = xs.length ∧ ys.length = ys.length ∧ xs.length ≤ (4611686018427387904 : Nat) ∧ ys.length ≤ (4611686018427387904 : Nat) ∧ bz.length = bz.length ∧ bz.length ≤ (4611686018427387904 : Nat) ∧ (↑bz.length : Int) = c) && gm.sp r c xs ys && (true && (true && true) && (true && (true && true))) then bif true && true && (true && true && (true && true && (true && true && true))) then bif decide (xs.length = xs.length ∧ ys.length = ys.length) && gm.sp r c xs ys && (true && (true && (true && (true && true))) && true || true && (true && (false && (false && true))) && true) then bif decide ((c * r).toNat = (tn.sv r.toNat c.toNat ys).length ∧ (c * r).toNat = (tn.sv r.toNat c.toNat xs).length ∧ (c * r).toNat ≤ (4611686018427387904 : Nat) ∧ (c * r).toNat ≤ (4611686018427387904 : Nat) ∧ az.length = az.length ∧ az.length ≤ (4611686018427387904 : Nat) ∧ (↑az.length : Int) = r) && gm.sp c r (tn.sv r.toNat c.toNat ys) (tn.sv r.toNat c.toNat xs) && (true && (true && true) && (true && (true && true))) then bif true && true then bif !(wg.gok.sp r c xs ys az bz && wg.fin.sp (wg.FR c.toNat xs bz (wg.ga.sv r c xs ys az bz)) r.toNat && wg.fin.sp (wg.FR r.toNat (tn.sv r.toNat c.toNat ys) az (wg.gb.sv r c xs ys az bz)) c.toNat) then some (AVal.tup [AVal.flt FloatKind.f32 (0 : Nat), AVal.bool false], []) else bif true && true then some (AVal.tup [AVal.flt FloatKind.f32 (wg.mst.sv (wg.FR r.toNat (tn.sv r.toNat c.toNat ys) az (wg.gb.sv r c xs ys az bz)) c.toNat (wg.mst.sv (wg.FR c.toNat xs bz (wg.ga.sv r c xs ys az bz)) r.toNat (0 : Nat))), AVal.bool true], []) else none else none else none else none else none else none else none else none else none else none else none) := by kernel_rfl
theorem run : ∀ args v new, R args = some (true, v, new) → ∃ fuel, runFn Try.prog (orcW [⟨70, look.R⟩] [⟨57, iGainsOf.R⟩, ⟨66, turnedL.R⟩]) hd0 Dr.std (some 0) fuel (bodyOf Try.f21) 38 [6, 7] args [] = some (v, new) := by
  intro args v new h
  unfold R at h
  split at h
  · rename_i r c xs ma ys mb az mc bz md
    simp only [Option.some.injEq, Prod.mk.injEq, Bool.and_eq_true, decide_eq_true_eq, Bool.not_eq_true'] at h
    obtain ⟨⟨rfl, rfl, h3, h4, rfl, h6, rfl, h8⟩, rfl, rfl⟩ := h
    refine ⟨0, ?_⟩
    rw [go]
    cases hg : wg.gok.sp r c xs ys az bz
    · have ho : wg.sp r c xs ys az bz = false := by simp [wg.sp, hg]
      simp only [wg.v.sv, ho, cond_false]
      simp -implicitDefEqProofs only [h3, h4, h6, h8, hg, Nat.le_refl, and_self, eq_self, decide_true, decide_false, Bool.and_self, Bool.or_self, Bool.and_true, Bool.true_and, Bool.and_false, Bool.false_and, Bool.or_true, Bool.true_or, Bool.or_false, Bool.false_or, Bool.not_true, Bool.not_false, cond_true, cond_false]
    · have hch : wg.ch.sp r c xs ys az bz = true := by
        unfold wg.gok.sp at hg
        simp only [Bool.and_eq_true] at hg
        exact hg.1
      obtain ⟨hv, ha, hb⟩ := wg.ch_valid hch
      have hv2 := hv
      obtain ⟨r, c, rfl, rfl, hr, hc, hx, hy, vx, vy⟩ := gm.valid hv2
      have h36c := gm.le_36 hc.2 hr.2
      have t1 : (tn.sv r c ys).length = c * r := tn.sv_length _ _ _
      have t2 : (tn.sv r c xs).length = c * r := tn.sv_length _ _ _
      have t4 : c * r ≤ 4611686018427387904 := by omega
      have hw := tn.valid hr hc hx hy vx vy
      have e : ((c : Int) * (r : Int)).toNat = c * r := by
        have : (c : Int) * (r : Int) = ((c * r : Nat) : Int) := by simp
        rw [this]; rfl
      unfold wg.v.sv wg.sp
      rw [hg]
      simp -implicitDefEqProofs only [e, t1, t2, t4, hw, hv, ha, hb, h3, h4, h6, h8, Int.toNat_natCast, Nat.le_refl, and_self, eq_self, wg.turned_fin, wg.turned_mst, decide_true, decide_false, Bool.and_self, Bool.or_self, Bool.and_true, Bool.true_and, Bool.and_false, Bool.false_and, Bool.or_true, Bool.true_or, Bool.or_false, Bool.false_or, Bool.not_true, Bool.not_false, cond_true, cond_false]
      generalize wg.ga.sv (r : Int) (c : Int) xs ys az bz = A
      generalize wg.gb.sv (r : Int) (c : Int) xs ys az bz = B
      cases wg.fin.sp (wg.FR c xs bz A) r <;> cases wg.fin.sp (wg.FC r c ys az B) c <;> rfl
  · cases h
theorem ok : EntOk Try.prog ⟨21, R⟩ :=
  ent_okA mixed (A := (orcW [⟨70, look.R⟩] [⟨57, iGainsOf.R⟩, ⟨66, turnedL.R⟩])) (orcW_ok (by simp only [List.mem_cons, List.not_mem_nil, or_false, forall_eq_or_imp, forall_eq]; exact look.ok) (by simp only [List.mem_cons, List.not_mem_nil, or_false, forall_eq_or_imp, forall_eq]; exact ⟨iGainsOf.ok, turnedL.ok⟩)) Try.func21 (by kernel_rfl) (by kernel_rfl) (n := 38) (ts := [6, 7]) (hd := hd0) (dr := Dr.std) (cut := (some 0)) (by kernel_rfl) (by kernel_rfl) (by kernel_rfl) run
end iWouldGain

end Go.Proofs.Ytdbjnmefflngcaa.Ab
