/-
  Functions: rounds of envy; values that the laws draw from bytes.
-/
import Derived.Test.YtadcpdjcadnepaaFnQB
import Derived.Test.YtadcpdjcadnepaaFnNA
namespace Go.Proofs.Ytadcpdjcadnepaa.Ab
open Go
set_option linter.unusedVariables false
set_option linter.unusedSimpArgs false
set_option maxRecDepth 100000

namespace vMove
def R : List AVal → Heap → Option (Bool × AVal × Heap)
  | [.agg [.int .i64 p, .int .i64 t, .ro (.ints .i64 ws) m 1], .own 0 0 l 0 1], [⟨.typ (.ints .i64 os), 0⟩] => some (decide (m = ws.length ∧ l = os.length ∧ (l : Int) = t) && (vp.sp p t ws && (er.all.sp t.toNat ws os p.toNat && os.all fun x => decide (-1 ≤ x) && decide (x < p))), .tup [], [⟨.typ (.ints .i64 (er.mv.sv t.toNat ws os p.toNat)), 0⟩])
  | _, _ => none
def hd : Nat → Head := fun i => bif eqN i 1 then ⟨[1, 2, 4], some 2⟩ else bif eqN i 2 then ⟨[1, 7, 8, 39, 40, 41], some 3⟩ else bif eqN i 4 then ⟨[1, 8, 62, 63, 64], some 3⟩ else ⟨[1, 2, 4], some 2⟩
noncomputable def L0 (f n : Nat) (s : State) := loopAt Try.prog (orc [⟨93, vEnvier.R⟩, ⟨129, slIndexQ.R⟩, ⟨91, counting2.R⟩]) hd Dr.std 1 f (bodyOf Try.f94) 0 [true, true] (retK Try.prog [] 1 (some 0)) n s
noncomputable def L2 (f n n2 : Nat) (s : State) := loopAt Try.prog (orc [⟨93, vEnvier.R⟩, ⟨129, slIndexQ.R⟩, ⟨91, counting2.R⟩]) hd Dr.std 1 f (bodyAt (bodyOf Try.f94) [true, true]) (curAt (bodyOf Try.f94) 0 [true, true]) [true, true, true, true, true, false, true] (iterK (normE 1 (hd (curAt (bodyOf Try.f94) 0 [true, true]))) (L0 f n) (contAt Try.prog (orc [⟨93, vEnvier.R⟩, ⟨129, slIndexQ.R⟩, ⟨91, counting2.R⟩]) hd Dr.std 1 f (bodyOf Try.f94) 0 [true, true] (retK Try.prog [] 1 (some 0)))) n2 s
noncomputable def L4 (f n n2 : Nat) (s : State) := loopAt Try.prog (orc [⟨93, vEnvier.R⟩, ⟨129, slIndexQ.R⟩, ⟨91, counting2.R⟩]) hd Dr.std 1 f (bodyAt (bodyOf Try.f94) [true, true]) (curAt (bodyOf Try.f94) 0 [true, true]) [true, true, true, true, true, true, false, true] (iterK (normE 1 (hd (curAt (bodyOf Try.f94) 0 [true, true]))) (L0 f n) (contAt Try.prog (orc [⟨93, vEnvier.R⟩, ⟨129, slIndexQ.R⟩, ⟨91, counting2.R⟩]) hd Dr.std 1 f (bodyOf Try.f94) 0 [true, true] (retK Try.prog [] 1 (some 0)))) n2 s
theorem start (p t : Nat) (ws : List Int) (os : List Int) (f : Nat) :
  runFn Try.prog (orc [⟨93, vEnvier.R⟩, ⟨129, slIndexQ.R⟩, ⟨91, counting2.R⟩]) hd Dr.std (some 0) f (bodyOf Try.f94) 79 [] [.agg [.int .i64 p, .int .i64 t, .ro (.ints .i64 ws) ws.length 1], .own 0 0 t 0 1] [⟨.typ (.ints .i64 os), 0⟩]
  = (bif true && true then L0 f f (mkS (79 : Nat) [((1 : Nat), AVal.own (0 : Nat) (0 : Nat) t (0 : Nat) (1 : Nat)), ((2 : Nat), AVal.ptr (1 : Nat) (0 : Nat) (0 : Nat)), ((4 : Nat), AVal.own ((1 : Nat) + (1 : Nat)) (0 : Nat) (1 : Nat) (0 : Nat) (1 : Nat))] [{ c := BC.typ (Cont.ints IntKind.i64 os), ver := (0 : Nat) }, { c := BC.cells [AVal.int IntKind.i64 (↑p : Int), AVal.int IntKind.i64 (↑t : Int), AVal.ro (Cont.ints IntKind.i64 ws) ws.length (1 : Nat)], ver := (0 : Nat) }, { c := BC.typ (Cont.ints IntKind.i64 ((List.replicate (1 : Nat) (0 : Int)).set (0 : Nat) (0 : Int))), ver := (0 : Nat) }]) else none) := by kernel_rfl
theorem round0 (p t : Nat) (ws : List Int) (os se to : List Int) (a0 q : Nat) (k f n : Nat) :
  L0 f (n + 1) (mkS 79 [(1, .own 0 0 t 0 1), (2, .ptr 1 0 0), (4, .own 2 0 se.length 0 1)] [⟨.typ (.ints .i64 os), 0⟩, ⟨.cells [.int .i64 p, .int .i64 t, .ro (.ints .i64 ws) ws.length 1], 0⟩, ⟨.typ (.ints .i64 se), 0⟩])
  = (bif true && true && (true && true && (true && true && true)) then bif true && (decide ((0 : Int) ≤ IntKind.i64.wrap ((↑se.length : Int) - (1 : Int))) && decide (IntKind.i64.wrap ((↑se.length : Int) - (1 : Int)) < (↑se.length : Int))) then bif true && decide ((IntKind.i64.wrap ((↑se.length : Int) - (1 : Int))).toNat < se.length) then bif decide (ws.length = ws.length ∧ t = os.length ∧ (↑t : Int) = (↑t : Int)) && vp.sp (↑p : Int) (↑t : Int) ws && (true && (true && (true && true)) && (true && (false && true)) || true && true) then bif decide (se.length ≤ se.length ∧ se.length ≤ (4611686018427387904 : Nat)) && (false && (true && true) || true && true) then bif decide (fidx.sq (fun y => er.ei.sv (↑t : Int).toNat ws os (↑p : Int).toNat (gz se (IntKind.i64.wrap ((↑se.length : Int) - (1 : Int))).toNat) == y) (List.take se.length se) (0 : Nat) < (0 : Int)) then bif (1 : Nat) == (1 : Nat) && (1 : Nat) == (1 : Nat) && (true && (true && true) && (true && true && (decide (se.length + (List.take (1 : Nat) (List.drop (0 : Nat) ((List.replicate (1 : Nat) (0 : Int)).set (0 : Nat) (er.ei.sv (↑t : Int).toNat ws os (↑p : Int).toNat (gz se (IntKind.i64.wrap ((↑se.length : Int) - (1 : Int))).toNat))))).length ≤ (4611686018427387904 : Nat)) && decide ((se.length + (List.take (1 : Nat) (List.drop (0 : Nat) ((List.replicate (1 : Nat) (0 : Int)).set (0 : Nat) (er.ei.sv (↑t : Int).toNat ws os (↑p : Int).toNat (gz se (IntKind.i64.wrap ((↑se.length : Int) - (1 : Int))).toNat))))).length) * (8 : Nat) ≤ (140737488355328 : Nat))))) then L0 f n (mkS (79 : Nat) [((1 : Nat), AVal.own (0 : Nat) (0 : Nat) t (0 : Nat) (1 : Nat)), ((2 : Nat), AVal.ptr (1 : Nat) (0 : Nat) (0 : Nat)), ((4 : Nat), AVal.own (2 : Nat) (0 : Nat) (se.length + (List.take (1 : Nat) (List.drop (0 : Nat) ((List.replicate (1 : Nat) (0 : Int)).set (0 : Nat) (er.ei.sv (↑t : Int).toNat ws os (↑p : Int).toNat (gz se (IntKind.i64.wrap ((↑se.length : Int) - (1 : Int))).toNat))))).length) (0 : Nat) (1 : Nat))] [{ c := BC.typ (Cont.ints IntKind.i64 os), ver := (0 : Nat) }, { c := BC.cells [AVal.int IntKind.i64 (↑p : Int), AVal.int IntKind.i64 (↑t : Int), AVal.ro (Cont.ints IntKind.i64 ws) ws.length (1 : Nat)], ver := (0 : Nat) }, { c := BC.typ (Cont.ints IntKind.i64 (List.take se.length se ++ List.take (1 : Nat) (List.drop (0 : Nat) ((List.replicate (1 : Nat) (0 : Int)).set (0 : Nat) (er.ei.sv (↑t : Int).toNat ws os (↑p : Int).toNat (gz se (IntKind.i64.wrap ((↑se.length : Int) - (1 : Int))).toNat)))))), ver := (0 : Nat) }]) else none else bif true && (true && (decide ((0 : Int) ≤ fidx.sq (fun y => er.ei.sv (↑t : Int).toNat ws os (↑p : Int).toNat (gz se (IntKind.i64.wrap ((↑se.length : Int) - (1 : Int))).toNat) == y) (List.take se.length se) (0 : Nat)) && decide (fidx.sq (fun y => er.ei.sv (↑t : Int).toNat ws os (↑p : Int).toNat (gz se (IntKind.i64.wrap ((↑se.length : Int) - (1 : Int))).toNat) == y) (List.take se.length se) (0 : Nat) ≤ (↑se.length : Int)) && (eqN (fidx.sq (fun y => er.ei.sv (↑t : Int).toNat ws os (↑p : Int).toNat (gz se (IntKind.i64.wrap ((↑se.length : Int) - (1 : Int))).toNat) == y) (List.take se.length se) (0 : Nat)).toNat (0 : Nat) || decide ((fidx.sq (fun y => er.ei.sv (↑t : Int).toNat ws os (↑p : Int).toNat (gz se (IntKind.i64.wrap ((↑se.length : Int) - (1 : Int))).toNat) == y) (List.take se.length se) (0 : Nat)).toNat < se.length)))) then bif true && true then bif decide ((0 : Int) ≤ (↑p : Int) ∧ (↑p : Int) ≤ (1000 : Int)) && (true && true || true && (true && true)) then L2 f n f (mkS (79 : Nat) [((1 : Nat), AVal.own (0 : Nat) (0 : Nat) t (0 : Nat) (1 : Nat)), ((7 : Nat), AVal.own (2 : Nat) (fidx.sq (fun y => er.ei.sv (↑t : Int).toNat ws os (↑p : Int).toNat (gz se (IntKind.i64.wrap ((↑se.length : Int) - (1 : Int))).toNat) == y) (List.take se.length se) (0 : Nat)).toNat (se.length - (fidx.sq (fun y => er.ei.sv (↑t : Int).toNat ws os (↑p : Int).toNat (gz se (IntKind.i64.wrap ((↑se.length : Int) - (1 : Int))).toNat) == y) (List.take se.length se) (0 : Nat)).toNat) (0 : Nat) (1 : Nat)), ((8 : Nat), AVal.own ((1 : Nat) + (1 : Nat) + (1 : Nat) + (0 : Nat)) (0 : Nat) (cq.sv (↑p : Int).toNat).length (0 : Nat) (1 : Nat)), ((39 : Nat), AVal.own (2 : Nat) (fidx.sq (fun y => er.ei.sv (↑t : Int).toNat ws os (↑p : Int).toNat (gz se (IntKind.i64.wrap ((↑se.length : Int) - (1 : Int))).toNat) == y) (List.take se.length se) (0 : Nat)).toNat (se.length - (fidx.sq (fun y => er.ei.sv (↑t : Int).toNat ws os (↑p : Int).toNat (gz se (IntKind.i64.wrap ((↑se.length : Int) - (1 : Int))).toNat) == y) (List.take se.length se) (0 : Nat)).toNat) (0 : Nat) (1 : Nat)), ((40 : Nat), AVal.int IntKind.i64 (↑(se.length - (fidx.sq (fun y => er.ei.sv (↑t : Int).toNat ws os (↑p : Int).toNat (gz se (IntKind.i64.wrap ((↑se.length : Int) - (1 : Int))).toNat) == y) (List.take se.length se) (0 : Nat)).toNat) : Int)), ((41 : Nat), AVal.int IntKind.i64 (0 : Int))] [{ c := BC.typ (Cont.ints IntKind.i64 os), ver := (0 : Nat) }, { c := BC.cells [AVal.int IntKind.i64 (↑p : Int), AVal.int IntKind.i64 (↑t : Int), AVal.ro (Cont.ints IntKind.i64 ws) ws.length (1 : Nat)], ver := (0 : Nat) }, { c := BC.typ (Cont.ints IntKind.i64 se), ver := (0 : Nat) }, { c := BC.typ (Cont.ints IntKind.i64 (cq.sv (↑p : Int).toNat)), ver := (0 : Nat) }]) else none else none else none else none else none else none else none else none) := by kernel_rfl
theorem round2 (p t : Nat) (ws : List Int) (os se to : List Int) (a0 q : Nat) (k f n n2 : Nat) :
  L2 f n (n2 + 1) (mkS 79 [(1, .own 0 0 t 0 1), (7, .own 2 a0 q 0 1), (8, .own 3 0 p 0 1), (39, .own 2 a0 q 0 1), (40, .int .i64 q), (41, .int .i64 (k : Int))] [⟨.typ (.ints .i64 os), 0⟩, ⟨.cells [.int .i64 p, .int .i64 t, .ro (.ints .i64 ws) ws.length 1], 0⟩, ⟨.typ (.ints .i64 se), 0⟩, ⟨.typ (.ints .i64 to), 0⟩])
  = (bif decide ((↑k : Int) < (↑q : Int)) then bif true && (decide ((0 : Int) ≤ (↑k : Int)) && decide ((↑k : Int) < (↑q : Int))) then bif true && decide (addL a0 (↑k : Int).toNat < se.length) then bif !(↑q : Int) == (0 : Int) then bif true && (decide ((0 : Int) ≤ (IntKind.i64.wrap (IntKind.i64.wrap ((↑k : Int) + (↑q : Int)) - (1 : Int))).tmod (↑q : Int)) && decide ((IntKind.i64.wrap (IntKind.i64.wrap ((↑k : Int) + (↑q : Int)) - (1 : Int))).tmod (↑q : Int) < (↑q : Int))) then bif true && decide (addL a0 ((IntKind.i64.wrap (IntKind.i64.wrap ((↑k : Int) + (↑q : Int)) - (1 : Int))).tmod (↑q : Int)).toNat < se.length) then bif true && (decide ((0 : Int) ≤ gz se (addL a0 ((IntKind.i64.wrap (IntKind.i64.wrap ((↑k : Int) + (↑q : Int)) - (1 : Int))).tmod (↑q : Int)).toNat)) && decide (gz se (addL a0 ((IntKind.i64.wrap (IntKind.i64.wrap ((↑k : Int) + (↑q : Int)) - (1 : Int))).tmod (↑q : Int)).toNat) < (↑p : Int))) then bif true && (true && (decide ((gz se (addL a0 ((IntKind.i64.wrap (IntKind.i64.wrap ((↑k : Int) + (↑q : Int)) - (1 : Int))).tmod (↑q : Int)).toNat)).toNat < to.length) && true)) then L2 f n n2 (mkS (79 : Nat) [((1 : Nat), AVal.own (0 : Nat) (0 : Nat) t (0 : Nat) (1 : Nat)), ((7 : Nat), AVal.own (2 : Nat) a0 q (0 : Nat) (1 : Nat)), ((8 : Nat), AVal.own (3 : Nat) (0 : Nat) p (0 : Nat) (1 : Nat)), ((39 : Nat), AVal.own (2 : Nat) a0 q (0 : Nat) (1 : Nat)), ((40 : Nat), AVal.int IntKind.i64 (↑q : Int)), ((41 : Nat), AVal.int IntKind.i64 (IntKind.i64.wrap ((↑k : Int) + (1 : Int))))] [{ c := BC.typ (Cont.ints IntKind.i64 os), ver := (0 : Nat) }, { c := BC.cells [AVal.int IntKind.i64 (↑p : Int), AVal.int IntKind.i64 (↑t : Int), AVal.ro (Cont.ints IntKind.i64 ws) ws.length (1 : Nat)], ver := (0 : Nat) }, { c := BC.typ (Cont.ints IntKind.i64 se), ver := (0 : Nat) }, { c := BC.typ (Cont.ints IntKind.i64 (to.set (gz se (addL a0 ((IntKind.i64.wrap (IntKind.i64.wrap ((↑k : Int) + (↑q : Int)) - (1 : Int))).tmod (↑q : Int)).toNat)).toNat (gz se (addL a0 (↑k : Int).toNat)))), ver := (0 : Nat) }]) else none else none else none else none else none else none else none else L4 f n f (mkS (79 : Nat) [((1 : Nat), AVal.own (0 : Nat) (0 : Nat) t (0 : Nat) (1 : Nat)), ((8 : Nat), AVal.own (3 : Nat) (0 : Nat) p (0 : Nat) (1 : Nat)), ((62 : Nat), AVal.own (0 : Nat) (0 : Nat) t (0 : Nat) (1 : Nat)), ((63 : Nat), AVal.int IntKind.i64 (↑t : Int)), ((64 : Nat), AVal.int IntKind.i64 (0 : Int))] [{ c := BC.typ (Cont.ints IntKind.i64 os), ver := (0 : Nat) }, { c := BC.cells [AVal.int IntKind.i64 (↑p : Int), AVal.int IntKind.i64 (↑t : Int), AVal.ro (Cont.ints IntKind.i64 ws) ws.length (1 : Nat)], ver := (0 : Nat) }, { c := BC.typ (Cont.ints IntKind.i64 se), ver := (0 : Nat) }, { c := BC.typ (Cont.ints IntKind.i64 to), ver := (0 : Nat) }])) := by kernel_rfl
theorem round4 (p t : Nat) (ws : List Int) (os se to : List Int) (a0 q : Nat) (k f n n2 : Nat) :
  L4 f n (n2 + 1) (mkS 79 [(1, .own 0 0 t 0 1), (8, .own 3 0 p 0 1), (62, .own 0 0 t 0 1), (63, .int .i64 t), (64, .int .i64 (k : Int))] [⟨.typ (.ints .i64 os), 0⟩, ⟨.cells [.int .i64 p, .int .i64 t, .ro (.ints .i64 ws) ws.length 1], 0⟩, ⟨.typ (.ints .i64 se), 0⟩, ⟨.typ (.ints .i64 to), 0⟩])
  = (bif decide ((↑k : Int) < (↑t : Int)) then bif true && (decide ((0 : Int) ≤ (↑k : Int)) && decide ((↑k : Int) < (↑t : Int))) then bif true && decide ((↑k : Int).toNat < os.length) then bif decide ((0 : Int) ≤ gz os (↑k : Int).toNat) then bif true && (decide ((0 : Int) ≤ gz os (↑k : Int).toNat) && decide (gz os (↑k : Int).toNat < (↑p : Int))) then bif true && decide ((gz os (↑k : Int).toNat).toNat < to.length) then bif true && (decide ((0 : Int) ≤ (↑k : Int)) && decide ((↑k : Int) < (↑t : Int))) then bif true && (true && (decide ((↑k : Int).toNat < os.length) && true)) then L4 f n n2 (mkS (79 : Nat) [((1 : Nat), AVal.own (0 : Nat) (0 : Nat) t (0 : Nat) (1 : Nat)), ((8 : Nat), AVal.own (3 : Nat) (0 : Nat) p (0 : Nat) (1 : Nat)), ((62 : Nat), AVal.own (0 : Nat) (0 : Nat) t (0 : Nat) (1 : Nat)), ((63 : Nat), AVal.int IntKind.i64 (↑t : Int)), ((64 : Nat), AVal.int IntKind.i64 (IntKind.i64.wrap ((↑k : Int) + (1 : Int))))] [{ c := BC.typ (Cont.ints IntKind.i64 (os.set (↑k : Int).toNat (gz to (gz os (↑k : Int).toNat).toNat))), ver := (0 : Nat) }, { c := BC.cells [AVal.int IntKind.i64 (↑p : Int), AVal.int IntKind.i64 (↑t : Int), AVal.ro (Cont.ints IntKind.i64 ws) ws.length (1 : Nat)], ver := (0 : Nat) }, { c := BC.typ (Cont.ints IntKind.i64 se), ver := (0 : Nat) }, { c := BC.typ (Cont.ints IntKind.i64 to), ver := (0 : Nat) }]) else none else none else none else none else L4 f n n2 (mkS (79 : Nat) [((1 : Nat), AVal.own (0 : Nat) (0 : Nat) t (0 : Nat) (1 : Nat)), ((8 : Nat), AVal.own (3 : Nat) (0 : Nat) p (0 : Nat) (1 : Nat)), ((62 : Nat), AVal.own (0 : Nat) (0 : Nat) t (0 : Nat) (1 : Nat)), ((63 : Nat), AVal.int IntKind.i64 (↑t : Int)), ((64 : Nat), AVal.int IntKind.i64 (IntKind.i64.wrap ((↑k : Int) + (1 : Int))))] [{ c := BC.typ (Cont.ints IntKind.i64 os), ver := (0 : Nat) }, { c := BC.cells [AVal.int IntKind.i64 (↑p : Int), AVal.int IntKind.i64 (↑t : Int), AVal.ro (Cont.ints IntKind.i64 ws) ws.length (1 : Nat)], ver := (0 : Nat) }, { c := BC.typ (Cont.ints IntKind.i64 se), ver := (0 : Nat) }, { c := BC.typ (Cont.ints IntKind.i64 to), ver := (0 : Nat) }]) else none else none else some (AVal.tup [], [{ c := BC.typ (Cont.ints IntKind.i64 os), ver := (0 : Nat) }])) := by kernel_rfl
theorem loop4 (p t : Nat) (ws : List Int) (os se to : List Int) (a0 q f n : Nat) (ht : t ≤ 8) (hl : os.length = t) (ho : er.Ow os p) (hto : to.length = p) : ∀ (d k n2 : Nat), k + d = t → d < n2 →
    L4 f n n2 (mkS 79 [(1, .own 0 0 t 0 1), (8, .own 3 0 p 0 1), (62, .own 0 0 t 0 1), (63, .int .i64 t), (64, .int .i64 (k : Int))] [⟨.typ (.ints .i64 (er.oz to os k)), 0⟩, ⟨.cells [.int .i64 p, .int .i64 t, .ro (.ints .i64 ws) ws.length 1], 0⟩, ⟨.typ (.ints .i64 se), 0⟩, ⟨.typ (.ints .i64 to), 0⟩]) = some (.tup [], [⟨.typ (.ints .i64 (er.oz to os os.length)), 0⟩]) := by
  intro d
  induction d with
  | zero =>
    intro k n2 hk hn
    obtain ⟨n2, rfl⟩ : ∃ k, n2 = k + 1 := ⟨n2 - 1, by omega⟩
    obtain rfl : k = t := by omega
    rw [round4 (a0 := 0) (q := 0), hl]
    simp -implicitDefEqProofs (disch := omega) only [take_one, set_one, decide_eq_true, decide_eq_false, IntWalk.i64_in, beqT, beqF, bneT, bneF, nat_succ, ← Int.natCast_mul, ← Int.natCast_add, Int.toNat_natCast, Int.zero_mul, Int.zero_add, Int.add_zero, Nat.zero_add, Nat.add_zero, Nat.zero_mul, List.length_singleton, List.length_append, List.length_nil, List.length_cons, List.take_length, List.drop_zero, List.replicate_zero, List.take_nil, List.nil_append, Nat.reduceBEq, Nat.reduceMul, Nat.reduceLeDiff, eq_self, and_self, true_and, and_true, decide_true, decide_false, Bool.and_self, Bool.or_self, Bool.and_true, Bool.true_and, Bool.and_false, Bool.false_and, Bool.or_true, Bool.true_or, Bool.or_false, Bool.false_or, Bool.not_true, Bool.not_false, cond_true, cond_false]
  | succ d ih =>
    intro k n2 hk hn
    obtain ⟨n2, rfl⟩ : ∃ k, n2 = k + 1 := ⟨n2 - 1, by omega⟩
    have g := ih (k + 1) n2 (by omega) (by omega)
    have hz := er.oz_length to os k
    have hgk : gz (er.oz to os k) k = gz os k := by rw [er.oz_get _ _ _ (by omega), if_neg (by omega)]
    have hw := er.ow_get ho k (by omega)
    simp only [er.oz] at g
    rw [round4 (a0 := 0) (q := 0)]
    by_cases h1 : 0 ≤ gz os k
    · rw [decide_eq_true h1, cond_true] at g
      simp -implicitDefEqProofs (disch := omega) only [hgk, take_one, set_one, decide_eq_true, decide_eq_false, IntWalk.i64_in, beqT, beqF, bneT, bneF, nat_succ, ← Int.natCast_mul, ← Int.natCast_add, Int.toNat_natCast, Int.zero_mul, Int.zero_add, Int.add_zero, Nat.zero_add, Nat.add_zero, Nat.zero_mul, List.length_singleton, List.length_append, List.length_nil, List.length_cons, List.take_length, List.drop_zero, List.replicate_zero, List.take_nil, List.nil_append, Nat.reduceBEq, Nat.reduceMul, Nat.reduceLeDiff, eq_self, and_self, true_and, and_true, decide_true, decide_false, Bool.and_self, Bool.or_self, Bool.and_true, Bool.true_and, Bool.and_false, Bool.false_and, Bool.or_true, Bool.true_or, Bool.or_false, Bool.false_or, Bool.not_true, Bool.not_false, cond_true, cond_false]
      exact g
    · rw [decide_eq_false h1, cond_false] at g
      simp -implicitDefEqProofs (disch := omega) only [hgk, take_one, set_one, decide_eq_true, decide_eq_false, IntWalk.i64_in, beqT, beqF, bneT, bneF, nat_succ, ← Int.natCast_mul, ← Int.natCast_add, Int.toNat_natCast, Int.zero_mul, Int.zero_add, Int.add_zero, Nat.zero_add, Nat.add_zero, Nat.zero_mul, List.length_singleton, List.length_append, List.length_nil, List.length_cons, List.take_length, List.drop_zero, List.replicate_zero, List.take_nil, List.nil_append, Nat.reduceBEq, Nat.reduceMul, Nat.reduceLeDiff, eq_self, and_self, true_and, and_true, decide_true, decide_false, Bool.and_self, Bool.or_self, Bool.and_true, Bool.true_and, Bool.and_false, Bool.false_and, Bool.or_true, Bool.true_or, Bool.or_false, Bool.false_or, Bool.not_true, Bool.not_false, cond_true, cond_false]
      exact g
theorem loop2 (p t : Nat) (ws : List Int) (os se : List Int) (a0 q f n : Nat) (hf : 20 < f) (ht : t ≤ 8) (hp : p ≤ 6) (hl : os.length = t) (ho : er.Ow os p) (hq : q + a0 = se.length) (h0 : 0 < q) (hse : se.length ≤ 20) (hr : ∀ x ∈ se, 0 ≤ x ∧ x < (p : Int)) : ∀ (d k n2 : Nat), k + d = q → d < n2 →
    L2 f n n2 (mkS 79 [(1, .own 0 0 t 0 1), (7, .own 2 a0 q 0 1), (8, .own 3 0 p 0 1), (39, .own 2 a0 q 0 1), (40, .int .i64 q), (41, .int .i64 (k : Int))] [⟨.typ (.ints .i64 os), 0⟩, ⟨.cells [.int .i64 p, .int .i64 t, .ro (.ints .i64 ws) ws.length 1], 0⟩, ⟨.typ (.ints .i64 se), 0⟩, ⟨.typ (.ints .i64 (er.tk p (se.drop a0) k)), 0⟩]) = some (.tup [], [⟨.typ (.ints .i64 (er.oz (er.to p (se.drop a0)) os os.length)), 0⟩]) := by
  have lr : (se.drop a0).length = q := by rw [List.length_drop]; omega
  intro d
  induction d with
  | zero =>
    intro k n2 hk hn
    obtain ⟨n2, rfl⟩ : ∃ k, n2 = k + 1 := ⟨n2 - 1, by omega⟩
    obtain rfl : k = q := by omega
    have g := loop4 p t ws os se (er.tk p (se.drop a0) k) a0 k f n ht hl ho (er.tk_length _ _ _) t 0 f (by omega) (by omega)
    have e : er.to p (se.drop a0) = er.tk p (se.drop a0) k := by unfold er.to; rw [lr]
    rw [round2, e]
    simp -implicitDefEqProofs (disch := omega) only [take_one, set_one, decide_eq_true, decide_eq_false, IntWalk.i64_in, beqT, beqF, bneT, bneF, nat_succ, ← Int.natCast_mul, ← Int.natCast_add, Int.toNat_natCast, Int.zero_mul, Int.zero_add, Int.add_zero, Nat.zero_add, Nat.add_zero, Nat.zero_mul, List.length_singleton, List.length_append, List.length_nil, List.length_cons, List.take_length, List.drop_zero, List.replicate_zero, List.take_nil, List.nil_append, Nat.reduceBEq, Nat.reduceMul, Nat.reduceLeDiff, eq_self, and_self, true_and, and_true, decide_true, decide_false, Bool.and_self, Bool.or_self, Bool.and_true, Bool.true_and, Bool.and_false, Bool.false_and, Bool.or_true, Bool.true_or, Bool.or_false, Bool.false_or, Bool.not_true, Bool.not_false, cond_true, cond_false]
    exact g
  | succ d ih =>
    intro k n2 hk hn
    obtain ⟨n2, rfl⟩ : ∃ k, n2 = k + 1 := ⟨n2 - 1, by omega⟩
    have g := ih (k + 1) n2 (by omega) (by omega)
    have hm : (k + q - 1) % q < q := Nat.mod_lt _ h0
    have hs : ((k + q : Nat) : Int) - 1 = ((k + q - 1 : Nat) : Int) := by omega
    have e1 : gz (se.drop a0) ((k + q - 1) % q) = gz se (a0 + (k + q - 1) % q) := er.gz_drop _ _ _
    have e2 : gz (se.drop a0) k = gz se (a0 + k) := er.gz_drop _ _ _
    have htk := er.tk_length p (se.drop a0) k
    simp only [er.tk, lr] at g
    rw [e1, e2] at g
    obtain ⟨x, hx⟩ : ∃ x, (k + q - 1) % q = x := ⟨_, rfl⟩
    rw [hx] at hm g
    have b1 := hr _ (gz_mem (l := se) (j := a0 + x) (by omega))
    rw [round2]
    simp -implicitDefEqProofs (disch := omega) only [addL_eq, hs, ← Int.ofNat_tmod, hx, take_one, set_one, decide_eq_true, decide_eq_false, IntWalk.i64_in, beqT, beqF, bneT, bneF, nat_succ, ← Int.natCast_mul, ← Int.natCast_add, Int.toNat_natCast, Int.zero_mul, Int.zero_add, Int.add_zero, Nat.zero_add, Nat.add_zero, Nat.zero_mul, List.length_singleton, List.length_append, List.length_nil, List.length_cons, List.take_length, List.drop_zero, List.replicate_zero, List.take_nil, List.nil_append, Nat.reduceBEq, Nat.reduceMul, Nat.reduceLeDiff, eq_self, and_self, true_and, and_true, decide_true, decide_false, Bool.and_self, Bool.or_self, Bool.and_true, Bool.true_and, Bool.and_false, Bool.false_and, Bool.or_true, Bool.true_or, Bool.or_false, Bool.false_or, Bool.not_true, Bool.not_false, cond_true, cond_false]
    exact g
theorem loop0 (p t : Nat) (ws : List Int) (os : List Int) (f : Nat) (hf : 20 < f) (hs : vp.sp p t ws = true) (hp : 1 ≤ p ∧ p ≤ 6) (ht : 1 ≤ t ∧ t ≤ 8) (hw : ws.length = p * t) (v : ∀ x ∈ ws, 0 ≤ x ∧ x ≤ 1000) (hl : os.length = t) (ho : er.Ow os p) (ha : er.all.sp t ws os p = true) : ∀ (m n : Nat) (se : List Int), er.Way t ws os p se → p < se.length + m → m < n →
    L0 f n (mkS 79 [(1, .own 0 0 t 0 1), (2, .ptr 1 0 0), (4, .own 2 0 se.length 0 1)] [⟨.typ (.ints .i64 os), 0⟩, ⟨.cells [.int .i64 p, .int .i64 t, .ro (.ints .i64 ws) ws.length 1], 0⟩, ⟨.typ (.ints .i64 se), 0⟩]) = some (.tup [], [⟨.typ (.ints .i64 (er.oz (er.to p ((er.path t ws os p m se).1.drop (er.path t ws os p m se).2)) os os.length)), 0⟩]) := by
  intro m
  induction m with
  | zero => intro n se W h; have := er.pigeon p se W.nd W.ran; omega
  | succ m ih =>
    intro n se W h hn
    obtain ⟨n, rfl⟩ : ∃ k, n = k + 1 := ⟨n - 1, by omega⟩
    have hse := er.pigeon p se W.nd W.ran
    have h0 := W.len
    have ej : ((se.length : Int) - 1).toNat = se.length - 1 := by omega
    rw [round0 (to := []) (a0 := 0) (q := 0) (k := 0)]
    simp only [er.path]
    obtain ⟨y, hy⟩ : ∃ y, er.ei.sv t ws os p (gz se (se.length - 1)) = y := ⟨_, rfl⟩
    have hfi := er.fidx_ok (er.ei.sv t ws os p (gz se (se.length - 1))) se 0
    have hnext := er.way_next ha W
    rw [hy] at hfi hnext ⊢
    obtain ⟨fx, hfx⟩ : ∃ x, fidx.sq (fun z => y == z) se 0 = x := ⟨_, rfl⟩
    rw [hfx] at hfi ⊢
    rcases hfi with ⟨e, hnot⟩ | ⟨a, e, hak, hg⟩
    · subst e
      have g := ih n (se ++ [y]) (hnext hnot) (by rw [List.length_append, List.length_singleton]; omega) (by omega)
      rw [List.length_append, List.length_singleton] at g
      rw [decide_eq_true (show (-1 : Int) < 0 by decide), cond_true]
      simp -implicitDefEqProofs (disch := omega) only [ej, hy, hfx, hs, take_one, set_one, decide_eq_true, decide_eq_false, IntWalk.i64_in, beqT, beqF, bneT, bneF, nat_succ, ← Int.natCast_mul, ← Int.natCast_add, Int.toNat_natCast, Int.zero_mul, Int.zero_add, Int.add_zero, Nat.zero_add, Nat.add_zero, Nat.zero_mul, List.length_singleton, List.length_append, List.length_nil, List.length_cons, List.take_length, List.drop_zero, List.replicate_zero, List.take_nil, List.nil_append, Nat.reduceBEq, Nat.reduceMul, Nat.reduceLeDiff, eq_self, and_self, true_and, and_true, decide_true, decide_false, Bool.and_self, Bool.or_self, Bool.and_true, Bool.true_and, Bool.and_false, Bool.false_and, Bool.or_true, Bool.true_or, Bool.or_false, Bool.false_or, Bool.not_true, Bool.not_false, cond_true, cond_false]
      exact g
    · rw [Nat.zero_add] at e
      subst e
      have lc := cq.sv_length p
      have g := loop2 p t ws os se a (se.length - a) f n hf ht.2 hp.2 hl ho (by omega) (by omega) (by omega) W.ran (se.length - a) 0 f (by omega) (by omega)
      rw [decide_eq_false (show ¬ ((a : Nat) : Int) < 0 by omega), cond_false, Int.toNat_natCast]
      simp only [er.tk] at g
      have eqa : (eqN a 0 || decide (a < se.length)) = true := by rw [decide_eq_true hak, Bool.or_true]
      simp -implicitDefEqProofs (disch := omega) only [ej, hy, hfx, hs, lc, eqa, take_one, set_one, decide_eq_true, decide_eq_false, IntWalk.i64_in, beqT, beqF, bneT, bneF, nat_succ, ← Int.natCast_mul, ← Int.natCast_add, Int.toNat_natCast, Int.zero_mul, Int.zero_add, Int.add_zero, Nat.zero_add, Nat.add_zero, Nat.zero_mul, List.length_singleton, List.length_append, List.length_nil, List.length_cons, List.take_length, List.drop_zero, List.replicate_zero, List.take_nil, List.nil_append, Nat.reduceBEq, Nat.reduceMul, Nat.reduceLeDiff, eq_self, and_self, true_and, and_true, decide_true, decide_false, Bool.and_self, Bool.or_self, Bool.and_true, Bool.true_and, Bool.and_false, Bool.false_and, Bool.or_true, Bool.true_or, Bool.or_false, Bool.false_or, Bool.not_true, Bool.not_false, cond_true, cond_false]
      exact g
theorem run : ∀ args H v new, R args H = some (true, v, new) → ∃ fuel, runFn Try.prog (orc [⟨93, vEnvier.R⟩, ⟨129, slIndexQ.R⟩, ⟨91, counting2.R⟩]) hd Dr.std (some 0) fuel (bodyOf Try.f94) 79 [] args H = some (v, new) := by
  intro args H v new h
  unfold R at h
  split at h
  · rename_i p t ws m l os
    simp only [Option.some.injEq, Prod.mk.injEq, Bool.and_eq_true, decide_eq_true_eq] at h
    obtain ⟨⟨⟨rfl, rfl, h3⟩, hs, ha, ho⟩, rfl, rfl⟩ := h
    have hs2 := hs
    obtain ⟨p, t, rfl, rfl, hp, ht, hw, v⟩ := vp.valid hs2
    obtain rfl : t = os.length := by omega
    obtain ⟨F, hF⟩ : ∃ F : Nat, F = 100 := ⟨100, rfl⟩
    refine ⟨F, ?_⟩
    have ho2 : er.Ow os p := fun x hx => by
      have := List.all_eq_true.1 ho x hx
      simp only [Bool.and_eq_true, decide_eq_true_eq] at this
      exact this
    have g := loop0 p os.length ws os F (by omega) hs hp ht hw v rfl ho2 ha 10 F [0] ⟨by simp, by simp, fun x hx => by simp only [List.mem_singleton] at hx; omega, fun k hk => by simp at hk⟩ (by simp; omega) (by omega)
    rw [start]
    simp -implicitDefEqProofs (disch := omega) only [take_one, set_one, decide_eq_true, decide_eq_false, IntWalk.i64_in, beqT, beqF, bneT, bneF, nat_succ, ← Int.natCast_mul, ← Int.natCast_add, Int.toNat_natCast, Int.zero_mul, Int.zero_add, Int.add_zero, Nat.zero_add, Nat.add_zero, Nat.zero_mul, List.length_singleton, List.length_append, List.length_nil, List.length_cons, List.take_length, List.drop_zero, List.replicate_zero, List.take_nil, List.nil_append, Nat.reduceBEq, Nat.reduceMul, Nat.reduceLeDiff, eq_self, and_self, true_and, and_true, decide_true, decide_false, Bool.and_self, Bool.or_self, Bool.and_true, Bool.true_and, Bool.and_false, Bool.false_and, Bool.or_true, Bool.true_or, Bool.or_false, Bool.false_or, Bool.not_true, Bool.not_false, cond_true, cond_false]
    exact g
  · cases h
theorem ok : EntWOk Try.prog ⟨94, R⟩ :=
  entw_ok mixed (A := (orc [⟨93, vEnvier.R⟩, ⟨129, slIndexQ.R⟩, ⟨91, counting2.R⟩])) (orc_ok (by simp only [List.mem_cons, List.not_mem_nil, or_false, forall_eq_or_imp, forall_eq]; exact ⟨vEnvier.ok, slIndexQ.ok, counting2.ok⟩)) Try.func94 (by kernel_rfl) (by kernel_rfl) (n := 79) (ts := []) (hd := hd) (dr := Dr.std) (cut := (some 0)) (by kernel_rfl) (by kernel_rfl) (by kernel_rfl) run
end vMove

namespace iEnvyRounds
def R : List AVal → Option (Bool × AVal × List Blk)
  | [.agg [.int .i64 p, .int .i64 t, .ro (.ints .i64 ws) m 1]] => some (decide (m = ws.length) && vp.sp p t ws, .tup [.own 0 0 t.toNat 0 1, .bool true], [⟨.typ (.ints .i64 (er.sv t.toNat ws p.toNat)), 0⟩])
  | _ => none
def hd : Nat → Head := fun i => bif eqN i 0 then ⟨[1, 4, 14, 15], some 3⟩ else ⟨[1, 4, 5, 14, 15], some 3⟩
noncomputable def L1 (f n : Nat) (s : State) := loopAt Try.prog (orcW [⟨94, vMove.R⟩] [⟨42, iValidValues.R⟩, ⟨88, iNone.R⟩, ⟨91, counting2.R⟩, ⟨90, envyIdx.R⟩]) hd Dr.std 0 f (bodyOf Try.f37) 0 [true, true, true, false, true] (retK Try.prog [2, 3] 0 none) n s
noncomputable def L2 (f n n2 : Nat) (s : State) := loopAt Try.prog (orcW [⟨94, vMove.R⟩] [⟨42, iValidValues.R⟩, ⟨88, iNone.R⟩, ⟨91, counting2.R⟩, ⟨90, envyIdx.R⟩]) hd Dr.std 0 f (bodyAt (bodyOf Try.f37) [true, true, true, false, true]) (curAt (bodyOf Try.f37) 0 [true, true, true, false, true]) [true, true, false, true] (iterK (normE 0 (hd (curAt (bodyOf Try.f37) 0 [true, true, true, false, true]))) (L1 f n) (contAt Try.prog (orcW [⟨94, vMove.R⟩] [⟨42, iValidValues.R⟩, ⟨88, iNone.R⟩, ⟨91, counting2.R⟩, ⟨90, envyIdx.R⟩]) hd Dr.std 0 f (bodyOf Try.f37) 0 [true, true, true, false, true] (retK Try.prog [2, 3] 0 none))) n2 s
theorem start (p t : Nat) (ws : List Int) (f : Nat) :
  runFn Try.prog (orcW [⟨94, vMove.R⟩] [⟨42, iValidValues.R⟩, ⟨88, iNone.R⟩, ⟨91, counting2.R⟩, ⟨90, envyIdx.R⟩]) hd Dr.std none f (bodyOf Try.f37) 34 [2, 3] [.agg [.int .i64 p, .int .i64 t, .ro (.ints .i64 ws) ws.length 1]] []
  = (bif true && true && (true && true && (true && true && true)) then bif decide (ws.length = ws.length) && vp.sp (↑p : Int) (↑t : Int) ws && (true && (true && (true && true)) && true || true && true) then bif true && true then bif decide ((1 : Int) ≤ (↑t : Int) ∧ (↑t : Int) ≤ (8 : Int)) && (true && true || true && (true && true)) then bif true && true then L1 f f (mkS (34 : Nat) [((1 : Nat), AVal.ptr (0 : Nat) (0 : Nat) (0 : Nat)), ((4 : Nat), AVal.ptr ((1 : Nat) + (1 : Nat)) (0 : Nat) (0 : Nat)), ((14 : Nat), AVal.int IntKind.i64 (↑(↑t : Int).toNat : Int)), ((15 : Nat), AVal.int IntKind.i64 (0 : Int))] [{ c := BC.cells [AVal.int IntKind.i64 (↑p : Int), AVal.int IntKind.i64 (↑t : Int), AVal.ro (Cont.ints IntKind.i64 ws) ws.length (1 : Nat)], ver := (0 : Nat) }, { c := BC.typ (Cont.ints IntKind.i64 (List.replicate (↑t : Int).toNat (-1 : Int))), ver := (0 : Nat) }, { c := BC.cells [AVal.own (1 : Nat) (0 : Nat) (↑t : Int).toNat (0 : Nat) (1 : Nat)], ver := (0 : Nat) }]) else none else none else none else none else none) := by kernel_rfl
theorem round1 (p t : Nat) (ws : List Int) (os : List Int) (k f n : Nat) :
  L1 f (n + 1) (mkS 34 [(1, .ptr 0 0 0), (4, .ptr 2 0 0), (14, .int .i64 t), (15, .int .i64 (k : Int))] [⟨.cells [.int .i64 p, .int .i64 t, .ro (.ints .i64 ws) ws.length 1], 0⟩, ⟨.typ (.ints .i64 os), 0⟩, ⟨.cells [.own 1 0 t 0 1], 0⟩])
  = (bif decide ((↑k : Int) < (↑t : Int)) then L2 f n f (mkS (34 : Nat) [((1 : Nat), AVal.ptr (0 : Nat) (0 : Nat) (0 : Nat)), ((4 : Nat), AVal.ptr (2 : Nat) (0 : Nat) (0 : Nat)), ((5 : Nat), AVal.int IntKind.i64 (↑k : Int)), ((14 : Nat), AVal.int IntKind.i64 (↑t : Int)), ((15 : Nat), AVal.int IntKind.i64 (↑k : Int))] [{ c := BC.cells [AVal.int IntKind.i64 (↑p : Int), AVal.int IntKind.i64 (↑t : Int), AVal.ro (Cont.ints IntKind.i64 ws) ws.length (1 : Nat)], ver := (0 : Nat) }, { c := BC.typ (Cont.ints IntKind.i64 os), ver := (0 : Nat) }, { c := BC.cells [AVal.own (1 : Nat) (0 : Nat) t (0 : Nat) (1 : Nat)], ver := (0 : Nat) }]) else bif true && true then some (AVal.tup [AVal.own (1 : Nat) (0 : Nat) t (0 : Nat) (1 : Nat), AVal.bool true], [{ c := BC.cells [AVal.int IntKind.i64 (↑p : Int), AVal.int IntKind.i64 (↑t : Int), AVal.ro (Cont.ints IntKind.i64 ws) ws.length (1 : Nat)], ver := (0 : Nat) }, { c := BC.typ (Cont.ints IntKind.i64 os), ver := (0 : Nat) }, { c := BC.cells [AVal.own (1 : Nat) (0 : Nat) t (0 : Nat) (1 : Nat)], ver := (0 : Nat) }]) else none) := by kernel_rfl
theorem round2 (p t : Nat) (ws : List Int) (os : List Int) (k f n n2 : Nat) :
  L2 f n (n2 + 1) (mkS 34 [(1, .ptr 0 0 0), (4, .ptr 2 0 0), (5, .int .i64 (k : Int)), (14, .int .i64 t), (15, .int .i64 (k : Int))] [⟨.cells [.int .i64 p, .int .i64 t, .ro (.ints .i64 ws) ws.length 1], 0⟩, ⟨.typ (.ints .i64 os), 0⟩, ⟨.cells [.own 1 0 t 0 1], 0⟩])
  = (bif true && true then bif decide ((0 : Int) ≤ (↑p : Int) ∧ (↑p : Int) ≤ (1000 : Int)) && (true && true || true && (true && true)) then bif decide (ws.length = ws.length ∧ t = os.length ∧ (↑t : Int) = (↑t : Int) ∧ (↑(cq.sv (↑p : Int).toNat).length : Int) = (↑p : Int) ∧ cq.sv (↑p : Int).toNat = cq.sv (↑p : Int).toNat ∧ (92 : Nat) = (92 : FuncId)) && vp.sp (↑p : Int) (↑t : Int) ws && (false && false || true && true) then bif decide ((0 : Int) ≤ er.free.sv (↑t : Int).toNat ws os (↑p : Int).toNat) then bif true && true then bif true && (decide ((0 : Int) ≤ (↑k : Int)) && decide ((↑k : Int) < (↑t : Int))) then bif true && (true && (decide ((↑k : Int).toNat < os.length) && true)) then L1 f n (mkS (34 : Nat) [((1 : Nat), AVal.ptr (0 : Nat) (0 : Nat) (0 : Nat)), ((4 : Nat), AVal.ptr (2 : Nat) (0 : Nat) (0 : Nat)), ((14 : Nat), AVal.int IntKind.i64 (↑t : Int)), ((15 : Nat), AVal.int IntKind.i64 (IntKind.i64.wrap ((↑k : Int) + (1 : Int))))] [{ c := BC.cells [AVal.int IntKind.i64 (↑p : Int), AVal.int IntKind.i64 (↑t : Int), AVal.ro (Cont.ints IntKind.i64 ws) ws.length (1 : Nat)], ver := (0 : Nat) }, { c := BC.typ (Cont.ints IntKind.i64 (os.set (↑k : Int).toNat (er.free.sv (↑t : Int).toNat ws os (↑p : Int).toNat))), ver := (0 : Nat) }, { c := BC.cells [AVal.own (1 : Nat) (0 : Nat) t (0 : Nat) (1 : Nat)], ver := (0 : Nat) }]) else none else none else none else bif true && true && (true && true && (true && true && true)) then bif true && true then bif decide (ws.length = ws.length ∧ t = os.length ∧ (↑t : Int) = (↑t : Int)) && (vp.sp (↑p : Int) (↑t : Int) ws && (er.all.sp (↑t : Int).toNat ws os (↑p : Int).toNat && os.all fun x => decide ((-1 : Int) ≤ x) && decide (x < (↑p : Int)))) && (true && (true && true)) then L2 f n n2 (mkS (34 : Nat) [((1 : Nat), AVal.ptr (0 : Nat) (0 : Nat) (0 : Nat)), ((4 : Nat), AVal.ptr (2 : Nat) (0 : Nat) (0 : Nat)), ((5 : Nat), AVal.int IntKind.i64 (↑k : Int)), ((14 : Nat), AVal.int IntKind.i64 (↑t : Int)), ((15 : Nat), AVal.int IntKind.i64 (↑k : Int))] [{ c := BC.cells [AVal.int IntKind.i64 (↑p : Int), AVal.int IntKind.i64 (↑t : Int), AVal.ro (Cont.ints IntKind.i64 ws) ws.length (1 : Nat)], ver := (0 : Nat) }, { c := BC.typ (Cont.ints IntKind.i64 (er.mv.sv (↑t : Int).toNat ws os (↑p : Int).toNat)), ver := (0 : Nat) }, { c := BC.cells [AVal.own (1 : Nat) (0 : Nat) t (0 : Nat) (1 : Nat)], ver := (0 : Nat) }]) else none else none else none else none else none else none) := by kernel_rfl
theorem inner (p t : Nat) (ws : List Int) (f n k : Nat) (hs : vp.sp p t ws = true) (hp : 1 ≤ p ∧ p ≤ 6) (ht : 1 ≤ t ∧ t ≤ 8) (hw : ws.length = p * t) (v : ∀ x ∈ ws, 0 ≤ x ∧ x ≤ 1000) (hk : k < t) : ∀ (N n2 : Nat) (os : List Int), er.Ok t ws os p k → 48000 < er.so t ws os p + N → N < n2 →
    L2 f n n2 (mkS 34 [(1, .ptr 0 0 0), (4, .ptr 2 0 0), (5, .int .i64 (k : Int)), (14, .int .i64 t), (15, .int .i64 (k : Int))] [⟨.cells [.int .i64 p, .int .i64 t, .ro (.ints .i64 ws) ws.length 1], 0⟩, ⟨.typ (.ints .i64 os), 0⟩, ⟨.cells [.own 1 0 t 0 1], 0⟩]) = L1 f n (mkS 34 [(1, .ptr 0 0 0), (4, .ptr 2 0 0), (14, .int .i64 t), (15, .int .i64 ((k + 1 : Nat) : Int))] [⟨.cells [.int .i64 p, .int .i64 t, .ro (.ints .i64 ws) ws.length 1], 0⟩, ⟨.typ (.ints .i64 (er.inner t ws p k N os)), 0⟩, ⟨.cells [.own 1 0 t 0 1], 0⟩]) := by
  intro N
  induction N with
  | zero =>
    intro n2 os h hm
    have := (er.so_in v t (os := os) (by rw [h.len]; exact ht.2) p).2
    omega
  | succ N ih =>
    intro n2 os h hm hn
    obtain ⟨n2, rfl⟩ : ∃ k, n2 = k + 1 := ⟨n2 - 1, by omega⟩
    have hl := h.len
    have lc := cq.sv_length p
    have oa : (os.all fun x => decide (-1 ≤ x) && decide (x < (p : Int))) = true := by
      rw [List.all_eq_true]; intro x hx; have := h.ow x hx; simp only [Bool.and_eq_true, decide_eq_true_eq]; omega
    rw [round2]
    simp only [er.inner]
    obtain ⟨fv, hfv⟩ : ∃ x, er.free.sv t ws os p = x := ⟨_, rfl⟩
    have hfo := er.free_ok t ws os p
    rw [hfv] at hfo ⊢
    rcases hfo with ⟨e, ha⟩ | ⟨j, e, hj, he⟩
    · subst e
      have hmo := er.mv_more (t := t) (ws := ws) (by omega) hp.2 ha h.ow
      have g := ih n2 _ (er.ok_mv (by omega) hp.2 ha h) (by omega) (by omega)
      rw [decide_eq_false (show ¬ (0 : Int) ≤ -1 by decide), cond_false]
      simp -implicitDefEqProofs (disch := omega) only [hs, lc, hfv, oa, ha, take_one, set_one, decide_eq_true, decide_eq_false, IntWalk.i64_in, beqT, beqF, bneT, bneF, nat_succ, ← Int.natCast_mul, ← Int.natCast_add, Int.toNat_natCast, Int.zero_mul, Int.zero_add, Int.add_zero, Nat.zero_add, Nat.add_zero, Nat.zero_mul, List.length_singleton, List.length_append, List.length_nil, List.length_cons, List.take_length, List.drop_zero, List.replicate_zero, List.take_nil, List.nil_append, Nat.reduceBEq, Nat.reduceMul, Nat.reduceLeDiff, eq_self, and_self, true_and, and_true, decide_true, decide_false, Bool.and_self, Bool.or_self, Bool.and_true, Bool.true_and, Bool.and_false, Bool.false_and, Bool.or_true, Bool.true_or, Bool.or_false, Bool.false_or, Bool.not_true, Bool.not_false, cond_true, cond_false]
      exact g
    · subst e
      rw [decide_eq_true (show (0 : Int) ≤ (j : Int) by omega), cond_true]
      simp -implicitDefEqProofs (disch := omega) only [hs, lc, hfv, oa, take_one, set_one, decide_eq_true, decide_eq_false, IntWalk.i64_in, beqT, beqF, bneT, bneF, nat_succ, ← Int.natCast_mul, ← Int.natCast_add, Int.toNat_natCast, Int.zero_mul, Int.zero_add, Int.add_zero, Nat.zero_add, Nat.add_zero, Nat.zero_mul, List.length_singleton, List.length_append, List.length_nil, List.length_cons, List.take_length, List.drop_zero, List.replicate_zero, List.take_nil, List.nil_append, Nat.reduceBEq, Nat.reduceMul, Nat.reduceLeDiff, eq_self, and_self, true_and, and_true, decide_true, decide_false, Bool.and_self, Bool.or_self, Bool.and_true, Bool.true_and, Bool.and_false, Bool.false_and, Bool.or_true, Bool.true_or, Bool.or_false, Bool.false_or, Bool.not_true, Bool.not_false, cond_true, cond_false]
theorem loop1 (p t : Nat) (ws : List Int) (f : Nat) (hf : 50010 < f) (hs : vp.sp p t ws = true) (hp : 1 ≤ p ∧ p ≤ 6) (ht : 1 ≤ t ∧ t ≤ 8) (hw : ws.length = p * t) (v : ∀ x ∈ ws, 0 ≤ x ∧ x ≤ 1000) : ∀ (d k n : Nat), k + d = t → d < n →
    L1 f n (mkS 34 [(1, .ptr 0 0 0), (4, .ptr 2 0 0), (14, .int .i64 t), (15, .int .i64 (k : Int))] [⟨.cells [.int .i64 p, .int .i64 t, .ro (.ints .i64 ws) ws.length 1], 0⟩, ⟨.typ (.ints .i64 (er.go t ws p k)), 0⟩, ⟨.cells [.own 1 0 t 0 1], 0⟩]) = some (.tup [.own 1 0 t 0 1, .bool true], [⟨.cells [.int .i64 p, .int .i64 t, .ro (.ints .i64 ws) ws.length 1], 0⟩, ⟨.typ (.ints .i64 (er.go t ws p t)), 0⟩, ⟨.cells [.own 1 0 t 0 1], 0⟩]) := by
  intro d
  induction d with
  | zero =>
    intro k n hk hn
    obtain ⟨n, rfl⟩ : ∃ k, n = k + 1 := ⟨n - 1, by omega⟩
    obtain rfl : k = t := by omega
    rw [round1]
    simp -implicitDefEqProofs (disch := omega) only [take_one, set_one, decide_eq_true, decide_eq_false, IntWalk.i64_in, beqT, beqF, bneT, bneF, nat_succ, ← Int.natCast_mul, ← Int.natCast_add, Int.toNat_natCast, Int.zero_mul, Int.zero_add, Int.add_zero, Nat.zero_add, Nat.add_zero, Nat.zero_mul, List.length_singleton, List.length_append, List.length_nil, List.length_cons, List.take_length, List.drop_zero, List.replicate_zero, List.take_nil, List.nil_append, Nat.reduceBEq, Nat.reduceMul, Nat.reduceLeDiff, eq_self, and_self, true_and, and_true, decide_true, decide_false, Bool.and_self, Bool.or_self, Bool.and_true, Bool.true_and, Bool.and_false, Bool.false_and, Bool.or_true, Bool.true_or, Bool.or_false, Bool.false_or, Bool.not_true, Bool.not_false, cond_true, cond_false]
  | succ d ih =>
    intro k n hk hn
    obtain ⟨n, rfl⟩ : ∃ k, n = k + 1 := ⟨n - 1, by omega⟩
    have g := ih (k + 1) n (by omega) (by omega)
    have h := er.go_ok v (by omega) hp.2 ht.2 k (by omega)
    have h1 := (er.so_in v t (os := er.go t ws p k) (by rw [h.len]; exact ht.2) p).1
    have g2 := inner p t ws f n k hs hp ht hw v (by omega) 50000 f (er.go t ws p k) h (by omega) (by omega)
    simp only [er.go] at g
    rw [round1]
    simp -implicitDefEqProofs (disch := omega) only [take_one, set_one, decide_eq_true, decide_eq_false, IntWalk.i64_in, beqT, beqF, bneT, bneF, nat_succ, ← Int.natCast_mul, ← Int.natCast_add, Int.toNat_natCast, Int.zero_mul, Int.zero_add, Int.add_zero, Nat.zero_add, Nat.add_zero, Nat.zero_mul, List.length_singleton, List.length_append, List.length_nil, List.length_cons, List.take_length, List.drop_zero, List.replicate_zero, List.take_nil, List.nil_append, Nat.reduceBEq, Nat.reduceMul, Nat.reduceLeDiff, eq_self, and_self, true_and, and_true, decide_true, decide_false, Bool.and_self, Bool.or_self, Bool.and_true, Bool.true_and, Bool.and_false, Bool.false_and, Bool.or_true, Bool.true_or, Bool.or_false, Bool.false_or, Bool.not_true, Bool.not_false, cond_true, cond_false]
    exact g2.trans g
theorem run : ∀ args v new, R args = some (true, v, new) → ∃ fuel, regc [1] (runFn Try.prog (orcW [⟨94, vMove.R⟩] [⟨42, iValidValues.R⟩, ⟨88, iNone.R⟩, ⟨91, counting2.R⟩, ⟨90, envyIdx.R⟩]) hd Dr.std none fuel (bodyOf Try.f37) 34 [2, 3] args []) = some (v, new) := by
  intro args v new h
  unfold R at h
  split at h
  · rename_i p t ws m
    simp only [Option.some.injEq, Prod.mk.injEq, Bool.and_eq_true, decide_eq_true_eq] at h
    obtain ⟨⟨⟨rfl⟩, hs⟩, rfl, rfl⟩ := h
    have hs2 := hs
    obtain ⟨p, t, rfl, rfl, hp, ht, hw, v⟩ := vp.valid hs2
    have h48 := vp.le_48 hp.2 ht.2
    obtain ⟨F, hF⟩ : ∃ F : Nat, F = 60000 := ⟨60000, rfl⟩
    refine ⟨F, ?_⟩
    have g := loop1 p t ws F (by omega) hs hp ht hw v t 0 F (by omega) (by omega)
    rw [start]
    simp -implicitDefEqProofs (disch := omega) only [hs, take_one, set_one, decide_eq_true, decide_eq_false, IntWalk.i64_in, beqT, beqF, bneT, bneF, nat_succ, ← Int.natCast_mul, ← Int.natCast_add, Int.toNat_natCast, Int.zero_mul, Int.zero_add, Int.add_zero, Nat.zero_add, Nat.add_zero, Nat.zero_mul, List.length_singleton, List.length_append, List.length_nil, List.length_cons, List.take_length, List.drop_zero, List.replicate_zero, List.take_nil, List.nil_append, Nat.reduceBEq, Nat.reduceMul, Nat.reduceLeDiff, eq_self, and_self, true_and, and_true, decide_true, decide_false, Bool.and_self, Bool.or_self, Bool.and_true, Bool.true_and, Bool.and_false, Bool.false_and, Bool.or_true, Bool.true_or, Bool.or_false, Bool.false_or, Bool.not_true, Bool.not_false, cond_true, cond_false]
    exact (congrArg (regc [1]) g).trans rfl
  · cases h
theorem ok : EntOk Try.prog ⟨37, R⟩ :=
  ent_okAG (ks := [1]) mixed (A := (orcW [⟨94, vMove.R⟩] [⟨42, iValidValues.R⟩, ⟨88, iNone.R⟩, ⟨91, counting2.R⟩, ⟨90, envyIdx.R⟩])) (orcW_ok (by simp only [List.mem_cons, List.not_mem_nil, or_false, forall_eq_or_imp, forall_eq]; exact vMove.ok) (by simp only [List.mem_cons, List.not_mem_nil, or_false, forall_eq_or_imp, forall_eq]; exact ⟨iValidValues.ok, iNone.ok, counting2.ok, envyIdx.ok⟩)) Try.func37 (by kernel_rfl) (by kernel_rfl) (n := 34) (ts := [2, 3]) (hd := hd) (dr := Dr.std) (cut := none) (by kernel_rfl) (by kernel_rfl) (by kernel_rfl) run
end iEnvyRounds

end Go.Proofs.Ytadcpdjcadnepaa.Ab
