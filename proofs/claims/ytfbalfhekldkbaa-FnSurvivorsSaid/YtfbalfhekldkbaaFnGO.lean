/-
  Functions: rows and columns that are left.
-/
import Derived.Test.YtfbalfhekldkbaaFnGN
namespace Go.Proofs.Ytfbalfhekldkbaa.Ab
open Go
set_option linter.unusedVariables false
set_option linter.unusedSimpArgs false
set_option maxRecDepth 100000

namespace iSurvivorsOf_t
def dr : Nat → Dr := fun i => bif eqN i 3 then ⟨some [0, 1, 3, 4, 2, 5, 6, 7], false⟩ else ⟨none, false⟩
def R : List AVal → Option (Bool × AVal × List Blk)
  | [.agg [.int .i64 r, .int .i64 c, .ro (.ints .i64 xs) ma 1, .ro (.ints .i64 ys) mb 1]] => some (decide (ma = xs.length ∧ mb = ys.length ∧ ma ≤ 4611686018427387904 ∧ mb ≤ 4611686018427387904) && gm.sp r c xs ys, .tup [.own 0 0 (sg.rows.sv r.toNat c.toNat xs ys).length 0 1, .own 1 0 (sg.cols.sv r.toNat c.toNat xs ys).length 0 1, .bool true], [⟨.typ (.ints .i64 (sg.rows.sv r.toNat c.toNat xs ys)), 0⟩, ⟨.typ (.ints .i64 (sg.cols.sv r.toNat c.toNat xs ys)), 0⟩])
  | _ => none
def hd : Nat → Head := fun _ => ⟨[1, 2, 3, 4, 5, 6, 999], some 1⟩
noncomputable def L (f n : Nat) (s : State) := loopAt Try.prog (orc [⟨13, iValidGame.R⟩, ⟨32, counting.R⟩, ⟨33, gOf.R⟩, ⟨31, gWorse.R⟩, ⟨34, leave.R⟩, ⟨29, gTurned.R⟩]) hd dr 0 f (bodyOf Try.f12) 0 [true, true, true] (retK Try.prog [2, 3, 4] 0 none) n s
theorem start (r c : Int) (xs ys : List Int) (f : Nat) :
  runFn Try.prog (orc [⟨13, iValidGame.R⟩, ⟨32, counting.R⟩, ⟨33, gOf.R⟩, ⟨31, gWorse.R⟩, ⟨34, leave.R⟩, ⟨29, gTurned.R⟩]) hd dr none f (bodyOf Try.f12) 43 [2, 3, 4] [.agg [.int .i64 r, .int .i64 c, .ro (.ints .i64 xs) xs.length 1, .ro (.ints .i64 ys) ys.length 1]] []
  = (bif true && true && (true && true && (true && true && (true && true && true))) then bif decide (xs.length = xs.length ∧ ys.length = ys.length ∧ xs.length ≤ (4611686018427387904 : Nat) ∧ ys.length ≤ (4611686018427387904 : Nat)) && (true && (true && (true && (true && true))) && true || true && true) then bif !gm.sp r c xs ys then some (AVal.tup [AVal.nils, AVal.nils, AVal.bool false], [{ c := BC.cells [AVal.int IntKind.i64 r, AVal.int IntKind.i64 c, AVal.ro (Cont.ints IntKind.i64 xs) xs.length (1 : Nat), AVal.ro (Cont.ints IntKind.i64 ys) ys.length (1 : Nat)], ver := (0 : Nat) }]) else bif true && true then bif true && true then bif decide ((0 : Int) ≤ r ∧ r ≤ (1000 : Int)) && (true && true || true && (true && true)) then bif decide ((0 : Int) ≤ c ∧ c ≤ (1000 : Int)) && (true && true || true && (true && true)) then L f f (mkS (43 : Nat) [((1 : Nat), AVal.ptr (0 : Nat) (0 : Nat) (0 : Nat)), ((2 : Nat), AVal.nils), ((3 : Nat), AVal.nils), ((4 : Nat), AVal.bool false), ((5 : Nat), AVal.ro (Cont.ints IntKind.i64 (cnt.sv r.toNat)) (cnt.sv r.toNat).length (1 : Nat)), ((6 : Nat), AVal.ro (Cont.ints IntKind.i64 (cnt.sv c.toNat)) (cnt.sv c.toNat).length (1 : Nat))] [{ c := BC.cells [AVal.int IntKind.i64 r, AVal.int IntKind.i64 c, AVal.ro (Cont.ints IntKind.i64 xs) xs.length (1 : Nat), AVal.ro (Cont.ints IntKind.i64 ys) ys.length (1 : Nat)], ver := (0 : Nat) }]) else none else none else none else none else none else none) := by kernel_rfl
theorem round (r c : Nat) (xs ys : List Int) (ps qs : List Int) (f n : Nat) :
  L f (n + 1) (mkS 43 [(1, .ptr 0 0 0), (2, .nils), (3, .nils), (4, .bool false), (5, .ro (.ints .i64 ps) ps.length 1), (6, .ro (.ints .i64 qs) qs.length 1)] [⟨.cells [.int .i64 r, .int .i64 c, .ro (.ints .i64 xs) xs.length 1, .ro (.ints .i64 ys) ys.length 1], 0⟩])
  = (bif true && true && (true && true && (true && true && (true && true && true))) then bif decide (xs.length = xs.length ∧ ys.length = ys.length ∧ ps.length = ps.length ∧ qs.length = qs.length ∧ (1 : Nat) ≤ ps.length ∧ ps.length ≤ (6 : Nat) ∧ (1 : Nat) ≤ qs.length ∧ qs.length ≤ (6 : Nat)) && (gm.sp (↑r : Int) (↑c : Int) xs ys && (ps.all (pt.in.sp (↑r : Int)) && qs.all (pt.in.sp (↑c : Int)))) && (true && (true && (true && (true && true))) && (true && (true && true)) || true && (true && (true && (true && true))) && (true && (true && true))) then bif decide (ps.length * qs.length = (pt.sv (↑c : Int).toNat xs ps qs).length ∧ ps.length * qs.length = (pt.sv (↑c : Int).toNat ys ps qs).length) && gm.sp (↑ps.length : Int) (↑qs.length : Int) (pt.sv (↑c : Int).toNat xs ps qs) (pt.sv (↑c : Int).toNat ys ps qs) && (true && (true && (false && (false && true))) && true || true && (true && true)) then bif decide (ps.length = ps.length ∧ (wr.sv (↑ps.length : Int).toNat (↑qs.length : Int).toNat (pt.sv (↑c : Int).toNat xs ps qs)).length = (wr.sv (↑ps.length : Int).toNat (↑qs.length : Int).toNat (pt.sv (↑c : Int).toNat xs ps qs)).length ∧ ps.length ≤ (1000 : Nat) ∧ (wr.sv (↑ps.length : Int).toNat (↑qs.length : Int).toNat (pt.sv (↑c : Int).toNat xs ps qs)).length ≤ (1000 : Nat)) && (true && (false && true) || true && (true && true)) then bif true && true && (true && true && (true && true && (true && true && true))) then bif decide (xs.length = xs.length ∧ ys.length = ys.length ∧ (lv.sv ps (wr.sv (↑ps.length : Int).toNat (↑qs.length : Int).toNat (pt.sv (↑c : Int).toNat xs ps qs))).length = (lv.sv ps (wr.sv (↑ps.length : Int).toNat (↑qs.length : Int).toNat (pt.sv (↑c : Int).toNat xs ps qs))).length ∧ qs.length = qs.length ∧ (1 : Nat) ≤ (lv.sv ps (wr.sv (↑ps.length : Int).toNat (↑qs.length : Int).toNat (pt.sv (↑c : Int).toNat xs ps qs))).length ∧ (lv.sv ps (wr.sv (↑ps.length : Int).toNat (↑qs.length : Int).toNat (pt.sv (↑c : Int).toNat xs ps qs))).length ≤ (6 : Nat) ∧ (1 : Nat) ≤ qs.length ∧ qs.length ≤ (6 : Nat)) && (gm.sp (↑r : Int) (↑c : Int) xs ys && ((lv.sv ps (wr.sv (↑ps.length : Int).toNat (↑qs.length : Int).toNat (pt.sv (↑c : Int).toNat xs ps qs))).all (pt.in.sp (↑r : Int)) && qs.all (pt.in.sp (↑c : Int)))) && (true && (true && (true && (true && true))) && (false && (true && true)) || true && (true && (true && (true && true))) && (true && (true && true))) then bif decide ((lv.sv ps (wr.sv (↑ps.length : Int).toNat (↑qs.length : Int).toNat (pt.sv (↑c : Int).toNat xs ps qs))).length * qs.length = (pt.sv (↑c : Int).toNat xs (lv.sv ps (wr.sv (↑ps.length : Int).toNat (↑qs.length : Int).toNat (pt.sv (↑c : Int).toNat xs ps qs))) qs).length ∧ (lv.sv ps (wr.sv (↑ps.length : Int).toNat (↑qs.length : Int).toNat (pt.sv (↑c : Int).toNat xs ps qs))).length * qs.length = (pt.sv (↑c : Int).toNat ys (lv.sv ps (wr.sv (↑ps.length : Int).toNat (↑qs.length : Int).toNat (pt.sv (↑c : Int).toNat xs ps qs))) qs).length) && gm.sp (↑(lv.sv ps (wr.sv (↑ps.length : Int).toNat (↑qs.length : Int).toNat (pt.sv (↑c : Int).toNat xs ps qs))).length : Int) (↑qs.length : Int) (pt.sv (↑c : Int).toNat xs (lv.sv ps (wr.sv (↑ps.length : Int).toNat (↑qs.length : Int).toNat (pt.sv (↑c : Int).toNat xs ps qs))) qs) (pt.sv (↑c : Int).toNat ys (lv.sv ps (wr.sv (↑ps.length : Int).toNat (↑qs.length : Int).toNat (pt.sv (↑c : Int).toNat xs ps qs))) qs) && (true && (true && (false && (false && true))) && true || true && (true && (true && (true && true))) && (true && (true && true))) then bif decide (((↑qs.length : Int) * (↑(lv.sv ps (wr.sv (↑ps.length : Int).toNat (↑qs.length : Int).toNat (pt.sv (↑c : Int).toNat xs ps qs))).length : Int)).toNat = (tn.sv (↑(lv.sv ps (wr.sv (↑ps.length : Int).toNat (↑qs.length : Int).toNat (pt.sv (↑c : Int).toNat xs ps qs))).length : Int).toNat (↑qs.length : Int).toNat (pt.sv (↑c : Int).toNat ys (lv.sv ps (wr.sv (↑ps.length : Int).toNat (↑qs.length : Int).toNat (pt.sv (↑c : Int).toNat xs ps qs))) qs)).length ∧ ((↑qs.length : Int) * (↑(lv.sv ps (wr.sv (↑ps.length : Int).toNat (↑qs.length : Int).toNat (pt.sv (↑c : Int).toNat xs ps qs))).length : Int)).toNat = (tn.sv (↑(lv.sv ps (wr.sv (↑ps.length : Int).toNat (↑qs.length : Int).toNat (pt.sv (↑c : Int).toNat xs ps qs))).length : Int).toNat (↑qs.length : Int).toNat (pt.sv (↑c : Int).toNat xs (lv.sv ps (wr.sv (↑ps.length : Int).toNat (↑qs.length : Int).toNat (pt.sv (↑c : Int).toNat xs ps qs))) qs)).length) && gm.sp (↑qs.length : Int) (↑(lv.sv ps (wr.sv (↑ps.length : Int).toNat (↑qs.length : Int).toNat (pt.sv (↑c : Int).toNat xs ps qs))).length : Int) (tn.sv (↑(lv.sv ps (wr.sv (↑ps.length : Int).toNat (↑qs.length : Int).toNat (pt.sv (↑c : Int).toNat xs ps qs))).length : Int).toNat (↑qs.length : Int).toNat (pt.sv (↑c : Int).toNat ys (lv.sv ps (wr.sv (↑ps.length : Int).toNat (↑qs.length : Int).toNat (pt.sv (↑c : Int).toNat xs ps qs))) qs)) (tn.sv (↑(lv.sv ps (wr.sv (↑ps.length : Int).toNat (↑qs.length : Int).toNat (pt.sv (↑c : Int).toNat xs ps qs))).length : Int).toNat (↑qs.length : Int).toNat (pt.sv (↑c : Int).toNat xs (lv.sv ps (wr.sv (↑ps.length : Int).toNat (↑qs.length : Int).toNat (pt.sv (↑c : Int).toNat xs ps qs))) qs)) && (true && (true && (false && (false && true))) && true || true && (true && true)) then bif decide (qs.length = qs.length ∧ (wr.sv (↑qs.length : Int).toNat (↑(lv.sv ps (wr.sv (↑ps.length : Int).toNat (↑qs.length : Int).toNat (pt.sv (↑c : Int).toNat xs ps qs))).length : Int).toNat (tn.sv (↑(lv.sv ps (wr.sv (↑ps.length : Int).toNat (↑qs.length : Int).toNat (pt.sv (↑c : Int).toNat xs ps qs))).length : Int).toNat (↑qs.length : Int).toNat (pt.sv (↑c : Int).toNat ys (lv.sv ps (wr.sv (↑ps.length : Int).toNat (↑qs.length : Int).toNat (pt.sv (↑c : Int).toNat xs ps qs))) qs))).length = (wr.sv (↑qs.length : Int).toNat (↑(lv.sv ps (wr.sv (↑ps.length : Int).toNat (↑qs.length : Int).toNat (pt.sv (↑c : Int).toNat xs ps qs))).length : Int).toNat (tn.sv (↑(lv.sv ps (wr.sv (↑ps.length : Int).toNat (↑qs.length : Int).toNat (pt.sv (↑c : Int).toNat xs ps qs))).length : Int).toNat (↑qs.length : Int).toNat (pt.sv (↑c : Int).toNat ys (lv.sv ps (wr.sv (↑ps.length : Int).toNat (↑qs.length : Int).toNat (pt.sv (↑c : Int).toNat xs ps qs))) qs))).length ∧ qs.length ≤ (1000 : Nat) ∧ (wr.sv (↑qs.length : Int).toNat (↑(lv.sv ps (wr.sv (↑ps.length : Int).toNat (↑qs.length : Int).toNat (pt.sv (↑c : Int).toNat xs ps qs))).length : Int).toNat (tn.sv (↑(lv.sv ps (wr.sv (↑ps.length : Int).toNat (↑qs.length : Int).toNat (pt.sv (↑c : Int).toNat xs ps qs))).length : Int).toNat (↑qs.length : Int).toNat (pt.sv (↑c : Int).toNat ys (lv.sv ps (wr.sv (↑ps.length : Int).toNat (↑qs.length : Int).toNat (pt.sv (↑c : Int).toNat xs ps qs))) qs))).length ≤ (1000 : Nat)) && (true && (false && true) || true && (true && true)) then bif IntKind.i64.wrap ((↑(wr.sv (↑ps.length : Int).toNat (↑qs.length : Int).toNat (pt.sv (↑c : Int).toNat xs ps qs)).length : Int) + (↑(wr.sv (↑qs.length : Int).toNat (↑(lv.sv ps (wr.sv (↑ps.length : Int).toNat (↑qs.length : Int).toNat (pt.sv (↑c : Int).toNat xs ps qs))).length : Int).toNat (tn.sv (↑(lv.sv ps (wr.sv (↑ps.length : Int).toNat (↑qs.length : Int).toNat (pt.sv (↑c : Int).toNat xs ps qs))).length : Int).toNat (↑qs.length : Int).toNat (pt.sv (↑c : Int).toNat ys (lv.sv ps (wr.sv (↑ps.length : Int).toNat (↑qs.length : Int).toNat (pt.sv (↑c : Int).toNat xs ps qs))) qs))).length : Int)) == (0 : Int) then some (AVal.tup [AVal.own ((1 : Nat) + (1 : Nat) + (1 : Nat) + (1 : Nat) + (0 : Nat)) (0 : Nat) (lv.sv ps (wr.sv (↑ps.length : Int).toNat (↑qs.length : Int).toNat (pt.sv (↑c : Int).toNat xs ps qs))).length (0 : Nat) (1 : Nat), AVal.own ((1 : Nat) + (1 : Nat) + (1 : Nat) + (1 : Nat) + (1 : Nat) + (1 : Nat) + (1 : Nat) + (1 : Nat) + (1 : Nat) + (1 : Nat) + (0 : Nat)) (0 : Nat) (lv.sv qs (wr.sv (↑qs.length : Int).toNat (↑(lv.sv ps (wr.sv (↑ps.length : Int).toNat (↑qs.length : Int).toNat (pt.sv (↑c : Int).toNat xs ps qs))).length : Int).toNat (tn.sv (↑(lv.sv ps (wr.sv (↑ps.length : Int).toNat (↑qs.length : Int).toNat (pt.sv (↑c : Int).toNat xs ps qs))).length : Int).toNat (↑qs.length : Int).toNat (pt.sv (↑c : Int).toNat ys (lv.sv ps (wr.sv (↑ps.length : Int).toNat (↑qs.length : Int).toNat (pt.sv (↑c : Int).toNat xs ps qs))) qs)))).length (0 : Nat) (1 : Nat), AVal.bool true], [{ c := BC.cells [AVal.int IntKind.i64 (↑r : Int), AVal.int IntKind.i64 (↑c : Int), AVal.ro (Cont.ints IntKind.i64 xs) xs.length (1 : Nat), AVal.ro (Cont.ints IntKind.i64 ys) ys.length (1 : Nat)], ver := (0 : Nat) }, { c := BC.typ (Cont.ints IntKind.i64 (pt.sv (↑c : Int).toNat xs ps qs)), ver := (0 : Nat) }, { c := BC.typ (Cont.ints IntKind.i64 (pt.sv (↑c : Int).toNat ys ps qs)), ver := (0 : Nat) }, { c := BC.typ (Cont.ints IntKind.i64 (wr.sv (↑ps.length : Int).toNat (↑qs.length : Int).toNat (pt.sv (↑c : Int).toNat xs ps qs))), ver := (0 : Nat) }, { c := BC.typ (Cont.ints IntKind.i64 (lv.sv ps (wr.sv (↑ps.length : Int).toNat (↑qs.length : Int).toNat (pt.sv (↑c : Int).toNat xs ps qs)))), ver := (0 : Nat) }, { c := BC.typ (Cont.ints IntKind.i64 (pt.sv (↑c : Int).toNat xs (lv.sv ps (wr.sv (↑ps.length : Int).toNat (↑qs.length : Int).toNat (pt.sv (↑c : Int).toNat xs ps qs))) qs)), ver := (0 : Nat) }, { c := BC.typ (Cont.ints IntKind.i64 (pt.sv (↑c : Int).toNat ys (lv.sv ps (wr.sv (↑ps.length : Int).toNat (↑qs.length : Int).toNat (pt.sv (↑c : Int).toNat xs ps qs))) qs)), ver := (0 : Nat) }, { c := BC.typ (Cont.ints IntKind.i64 (tn.sv (↑(lv.sv ps (wr.sv (↑ps.length : Int).toNat (↑qs.length : Int).toNat (pt.sv (↑c : Int).toNat xs ps qs))).length : Int).toNat (↑qs.length : Int).toNat (pt.sv (↑c : Int).toNat ys (lv.sv ps (wr.sv (↑ps.length : Int).toNat (↑qs.length : Int).toNat (pt.sv (↑c : Int).toNat xs ps qs))) qs))), ver := (0 : Nat) }, { c := BC.typ (Cont.ints IntKind.i64 (tn.sv (↑(lv.sv ps (wr.sv (↑ps.length : Int).toNat (↑qs.length : Int).toNat (pt.sv (↑c : Int).toNat xs ps qs))).length : Int).toNat (↑qs.length : Int).toNat (pt.sv (↑c : Int).toNat xs (lv.sv ps (wr.sv (↑ps.length : Int).toNat (↑qs.length : Int).toNat (pt.sv (↑c : Int).toNat xs ps qs))) qs))), ver := (0 : Nat) }, { c := BC.typ (Cont.ints IntKind.i64 (wr.sv (↑qs.length : Int).toNat (↑(lv.sv ps (wr.sv (↑ps.length : Int).toNat (↑qs.length : Int).toNat (pt.sv (↑c : Int).toNat xs ps qs))).length : Int).toNat (tn.sv (↑(lv.sv ps (wr.sv (↑ps.length : Int).toNat (↑qs.length : Int).toNat (pt.sv (↑c : Int).toNat xs ps qs))).length : Int).toNat (↑qs.length : Int).toNat (pt.sv (↑c : Int).toNat ys (lv.sv ps (wr.sv (↑ps.length : Int).toNat (↑qs.length : Int).toNat (pt.sv (↑c : Int).toNat xs ps qs))) qs)))), ver := (0 : Nat) }, { c := BC.typ (Cont.ints IntKind.i64 (lv.sv qs (wr.sv (↑qs.length : Int).toNat (↑(lv.sv ps (wr.sv (↑ps.length : Int).toNat (↑qs.length : Int).toNat (pt.sv (↑c : Int).toNat xs ps qs))).length : Int).toNat (tn.sv (↑(lv.sv ps (wr.sv (↑ps.length : Int).toNat (↑qs.length : Int).toNat (pt.sv (↑c : Int).toNat xs ps qs))).length : Int).toNat (↑qs.length : Int).toNat (pt.sv (↑c : Int).toNat ys (lv.sv ps (wr.sv (↑ps.length : Int).toNat (↑qs.length : Int).toNat (pt.sv (↑c : Int).toNat xs ps qs))) qs))))), ver := (0 : Nat) }]) else L f n (mkS (43 : Nat) [((1 : Nat), AVal.ptr (0 : Nat) (0 : Nat) (0 : Nat)), ((2 : Nat), AVal.nils), ((3 : Nat), AVal.nils), ((4 : Nat), AVal.bool false), ((5 : Nat), AVal.ro (Cont.ints IntKind.i64 (lv.sv ps (wr.sv (↑ps.length : Int).toNat (↑qs.length : Int).toNat (pt.sv (↑c : Int).toNat xs ps qs)))) (lv.sv ps (wr.sv (↑ps.length : Int).toNat (↑qs.length : Int).toNat (pt.sv (↑c : Int).toNat xs ps qs))).length (1 : Nat)), ((6 : Nat), AVal.ro (Cont.ints IntKind.i64 (lv.sv qs (wr.sv (↑qs.length : Int).toNat (↑(lv.sv ps (wr.sv (↑ps.length : Int).toNat (↑qs.length : Int).toNat (pt.sv (↑c : Int).toNat xs ps qs))).length : Int).toNat (tn.sv (↑(lv.sv ps (wr.sv (↑ps.length : Int).toNat (↑qs.length : Int).toNat (pt.sv (↑c : Int).toNat xs ps qs))).length : Int).toNat (↑qs.length : Int).toNat (pt.sv (↑c : Int).toNat ys (lv.sv ps (wr.sv (↑ps.length : Int).toNat (↑qs.length : Int).toNat (pt.sv (↑c : Int).toNat xs ps qs))) qs))))) (lv.sv qs (wr.sv (↑qs.length : Int).toNat (↑(lv.sv ps (wr.sv (↑ps.length : Int).toNat (↑qs.length : Int).toNat (pt.sv (↑c : Int).toNat xs ps qs))).length : Int).toNat (tn.sv (↑(lv.sv ps (wr.sv (↑ps.length : Int).toNat (↑qs.length : Int).toNat (pt.sv (↑c : Int).toNat xs ps qs))).length : Int).toNat (↑qs.length : Int).toNat (pt.sv (↑c : Int).toNat ys (lv.sv ps (wr.sv (↑ps.length : Int).toNat (↑qs.length : Int).toNat (pt.sv (↑c : Int).toNat xs ps qs))) qs)))).length (1 : Nat))] [{ c := BC.cells [AVal.int IntKind.i64 (↑r : Int), AVal.int IntKind.i64 (↑c : Int), AVal.ro (Cont.ints IntKind.i64 xs) xs.length (1 : Nat), AVal.ro (Cont.ints IntKind.i64 ys) ys.length (1 : Nat)], ver := (0 : Nat) }]) else none else none else none else none else none else none else none else none else none) := by kernel_rfl
theorem loop (r c : Nat) (xs ys : List Int) (f : Nat) (hv : gm.sp r c xs ys = true) (hr : 1 ≤ r ∧ r ≤ 6) (hc : 1 ≤ c ∧ c ≤ 6) (hx : xs.length = r * c) (hy : ys.length = r * c) (vx : ∀ x ∈ xs, -1000 ≤ x ∧ x ≤ 1000) (vy : ∀ x ∈ ys, -1000 ≤ x ∧ x ≤ 1000) : ∀ (m n : Nat) (ps qs : List Int), m < n → ps.length + qs.length ≤ m → ps.all (pt.in.sp (r : Int)) = true → qs.all (pt.in.sp (c : Int)) = true → (1 ≤ ps.length ∧ ps.length ≤ 6) → (1 ≤ qs.length ∧ qs.length ≤ 6) →
    regc [4, 10] (L f n (mkS 43 [(1, .ptr 0 0 0), (2, .nils), (3, .nils), (4, .bool false), (5, .ro (.ints .i64 ps) ps.length 1), (6, .ro (.ints .i64 qs) qs.length 1)] [⟨.cells [.int .i64 r, .int .i64 c, .ro (.ints .i64 xs) xs.length 1, .ro (.ints .i64 ys) ys.length 1], 0⟩])) = some (.tup [.own 0 0 (sg.go c xs ys m ps qs).1.length 0 1, .own 1 0 (sg.go c xs ys m ps qs).2.length 0 1, .bool true], [⟨.typ (.ints .i64 (sg.go c xs ys m ps qs).1), 0⟩, ⟨.typ (.ints .i64 (sg.go c xs ys m ps qs).2), 0⟩]) := by
  intro m
  induction m with
  | zero => intro n ps qs _ hm _ _ lp lq; omega
  | succ m ih =>
    intro n ps qs hn hm hp hq lp lq
    obtain ⟨n, rfl⟩ : ∃ k, n = k + 1 := ⟨n - 1, by omega⟩
    obtain ⟨W1, hW1⟩ : ∃ W, W = sg.w1.sv c xs ps qs := ⟨_, rfl⟩
    obtain ⟨P1, hP1⟩ : ∃ W, W = sg.p1 c xs ps qs := ⟨_, rfl⟩
    obtain ⟨W2, hW2⟩ : ∃ W, W = sg.w2.sv c ys P1 qs := ⟨_, rfl⟩
    obtain ⟨Q1, hQ1⟩ : ∃ W, W = sg.q1 c xs ys ps qs := ⟨_, rfl⟩
    have hgo : sg.go c xs ys (m + 1) ps qs = bif decide (W1.length = 0) && decide (W2.length = 0) then (P1, Q1) else sg.go c xs ys m P1 Q1 := by rw [hW1, hW2, hP1, hQ1]; rfl
    have f1 : wr.sv ps.length qs.length (pt.sv c xs ps qs) = W1 := by rw [hW1]; rfl
    have f2 : lv.sv ps W1 = P1 := by rw [hW1, hP1]; rfl
    have f3 : wr.sv qs.length P1.length (tn.sv P1.length qs.length (pt.sv c ys P1 qs)) = W2 := by rw [hW2]; rfl
    have f4 : lv.sv qs W2 = Q1 := by rw [hW2, hQ1, hP1]; rfl
    have l1 : 1 ≤ P1.length := by rw [hP1]; exact sg.p1_pos xs lp.1 lq.1
    have l2 : P1.length ≤ ps.length := by rw [← f2]; exact lv.sv_length _ _
    have l3 : 1 ≤ Q1.length := by rw [hQ1]; exact sg.q1_pos xs ys lp.1 lq.1
    have l4 : Q1.length ≤ qs.length := by rw [← f4]; exact lv.sv_length _ _
    have l5 : W1.length ≤ 1000 := by have := wr.sv_length ps.length qs.length (pt.sv c xs ps qs); rw [f1] at this; omega
    have l6 : W2.length ≤ 1000 := by have := wr.sv_length qs.length P1.length (tn.sv P1.length qs.length (pt.sv c ys P1 qs)); rw [f3] at this; omega
    have a1 : P1.all (pt.in.sp (r : Int)) = true := by rw [← f2]; exact lv.sv_all hp
    have a2 : Q1.all (pt.in.sp (c : Int)) = true := by rw [← f4]; exact lv.sv_all hq
    have lp1 : 1 ≤ P1.length ∧ P1.length ≤ 6 := ⟨l1, by omega⟩
    have v1 : gm.sp (ps.length : Int) (qs.length : Int) (pt.sv c xs ps qs) (pt.sv c ys ps qs) = true := pt.valid hx hy vx vy hp hq lp lq
    have v2 : gm.sp (P1.length : Int) (qs.length : Int) (pt.sv c xs P1 qs) (pt.sv c ys P1 qs) = true := pt.valid hx hy vx vy a1 hq lp1 lq
    obtain ⟨R2, C2, e1, e2, r2, c2, x2, y2, vx2, vy2⟩ := gm.valid v2
    have e1' : P1.length = R2 := by omega
    have e2' : qs.length = C2 := by omega
    subst e1' e2'
    have v3 : gm.sp (qs.length : Int) (P1.length : Int) (tn.sv P1.length qs.length (pt.sv c ys P1 qs)) (tn.sv P1.length qs.length (pt.sv c xs P1 qs)) = true := tn.valid r2 c2 x2 y2 vx2 vy2
    have k1 : (pt.sv c xs ps qs).length = ps.length * qs.length := pt.sv_length _ _ _ _
    have k2 : (pt.sv c ys ps qs).length = ps.length * qs.length := pt.sv_length _ _ _ _
    have k3 : (pt.sv c xs P1 qs).length = P1.length * qs.length := pt.sv_length _ _ _ _
    have k4 : (pt.sv c ys P1 qs).length = P1.length * qs.length := pt.sv_length _ _ _ _
    have k5 : (tn.sv P1.length qs.length (pt.sv c ys P1 qs)).length = qs.length * P1.length := tn.sv_length _ _ _
    have k6 : (tn.sv P1.length qs.length (pt.sv c xs P1 qs)).length = qs.length * P1.length := tn.sv_length _ _ _
    have t1 : (pt.sv c xs ps qs).take (ps.length * qs.length) = pt.sv c xs ps qs := List.take_of_length_le (by omega)
    have t2 : (pt.sv c ys ps qs).take (ps.length * qs.length) = pt.sv c ys ps qs := List.take_of_length_le (by omega)
    have t3 : (pt.sv c xs P1 qs).take (P1.length * qs.length) = pt.sv c xs P1 qs := List.take_of_length_le (by omega)
    have t4 : (pt.sv c ys P1 qs).take (P1.length * qs.length) = pt.sv c ys P1 qs := List.take_of_length_le (by omega)
    have t5 : (tn.sv P1.length qs.length (pt.sv c ys P1 qs)).take (qs.length * P1.length) = tn.sv P1.length qs.length (pt.sv c ys P1 qs) := List.take_of_length_le (by omega)
    have t6 : (tn.sv P1.length qs.length (pt.sv c xs P1 qs)).take (qs.length * P1.length) = tn.sv P1.length qs.length (pt.sv c xs P1 qs) := List.take_of_length_le (by omega)
    have ex : ((qs.length : Int) * (P1.length : Int)).toNat = qs.length * P1.length := by
      have : (qs.length : Int) * (P1.length : Int) = ((qs.length * P1.length : Nat) : Int) := by simp
      rw [this]; rfl
    obtain ⟨lp0, lp6⟩ := lp
    obtain ⟨lq0, lq6⟩ := lq
    have l7 : P1.length ≤ 6 := lp1.2
    have b1 : ps.length ≤ 1000 := by omega
    have b2 : qs.length ≤ 1000 := by omega
    have ww : IntKind.i64.wrap ((W1.length : Int) + (W2.length : Int)) = (W1.length : Int) + (W2.length : Int) := IntWalk.i64_in _ (by omega)
    rw [round, hgo]
    by_cases z1 : W1.length = 0
    · by_cases z2 : W2.length = 0
      · have zi : ((W1.length : Int) + (W2.length : Int) == 0) = true := by simp only [beq_iff_eq]; omega
        have zi1 : ((W1.length : Int) == 0) = true := by simp only [beq_iff_eq]; omega
        have zi2 : ((W2.length : Int) == 0) = true := by simp only [beq_iff_eq]; omega
        simp -implicitDefEqProofs only [ww, zi, zi1, zi2, f1, f2, f3, f4, l1, l5, l6, l7, lp0, lp6, lq0, lq6, b1, b2, a1, hp, hq, hv, v1, v2, v3, k1, k2, k3, k4, k5, k6, t1, t2, t3, t4, t5, t6, ex, Int.toNat_natCast, List.take_length, Nat.le_refl, and_self, eq_self, decide_true, decide_false, Bool.and_self, Bool.or_self, Bool.and_true, Bool.true_and, Bool.and_false, Bool.false_and, Bool.or_true, Bool.true_or, Bool.or_false, Bool.false_or, Bool.not_true, Bool.not_false, cond_true, cond_false]
        simp only [z1, z2, decide_true, Bool.and_self, cond_true]
        rfl
      · have zi : ((W1.length : Int) + (W2.length : Int) == 0) = false := by simp only [beq_eq_false_iff_ne, ne_eq]; omega
        have zi1 : ((W1.length : Int) == 0) = true := by simp only [beq_iff_eq]; omega
        have zi2 : ((W2.length : Int) == 0) = false := by simp only [beq_eq_false_iff_ne, ne_eq]; omega
        have hlt : Q1.length < qs.length := by rw [hQ1]; exact sg.q1_lt (by rw [← hP1, ← hW2]; omega)
        have hih := ih n P1 Q1 (by omega) (by omega) a1 a2 lp1 ⟨l3, by omega⟩
        simp -implicitDefEqProofs only [ww, zi, zi1, zi2, z2, f1, f2, f3, f4, l1, l5, l6, l7, lp0, lp6, lq0, lq6, b1, b2, a1, hp, hq, hv, v1, v2, v3, k1, k2, k3, k4, k5, k6, t1, t2, t3, t4, t5, t6, ex, Int.toNat_natCast, List.take_length, Nat.le_refl, and_self, eq_self, decide_true, decide_false, Bool.and_self, Bool.or_self, Bool.and_true, Bool.true_and, Bool.and_false, Bool.false_and, Bool.or_true, Bool.true_or, Bool.or_false, Bool.false_or, Bool.not_true, Bool.not_false, cond_true, cond_false]
        exact hih
    · have zi : ((W1.length : Int) + (W2.length : Int) == 0) = false := by simp only [beq_eq_false_iff_ne, ne_eq]; omega
      have zi1 : ((W1.length : Int) == 0) = false := by simp only [beq_eq_false_iff_ne, ne_eq]; omega
      have hlt : P1.length < ps.length := by rw [hP1]; exact sg.p1_lt (by rw [← hW1]; omega)
      have hih := ih n P1 Q1 (by omega) (by omega) a1 a2 lp1 ⟨l3, by omega⟩
      simp -implicitDefEqProofs only [ww, zi, zi1, z1, f1, f2, f3, f4, l1, l5, l6, l7, lp0, lp6, lq0, lq6, b1, b2, a1, hp, hq, hv, v1, v2, v3, k1, k2, k3, k4, k5, k6, t1, t2, t3, t4, t5, t6, ex, Int.toNat_natCast, List.take_length, Nat.le_refl, and_self, eq_self, decide_true, decide_false, Bool.and_self, Bool.or_self, Bool.and_true, Bool.true_and, Bool.and_false, Bool.false_and, Bool.or_true, Bool.true_or, Bool.or_false, Bool.false_or, Bool.not_true, Bool.not_false, cond_true, cond_false]
      exact hih
theorem run : ∀ args v new, R args = some (true, v, new) → ∃ fuel, regc [4, 10] (runFn Try.prog (orc [⟨13, iValidGame.R⟩, ⟨32, counting.R⟩, ⟨33, gOf.R⟩, ⟨31, gWorse.R⟩, ⟨34, leave.R⟩, ⟨29, gTurned.R⟩]) hd dr none fuel (bodyOf Try.f12) 43 [2, 3, 4] args []) = some (v, new) := by
  intro args v new h
  unfold R at h
  split at h
  · rename_i r c xs ma ys mb
    simp only [Option.some.injEq, Prod.mk.injEq, Bool.and_eq_true, decide_eq_true_eq, Bool.not_eq_true'] at h
    obtain ⟨⟨⟨rfl, rfl, h3, h4⟩, hv⟩, rfl, rfl⟩ := h
    have hv2 := hv
    obtain ⟨r, c, rfl, rfl, hr, hc, hx, hy, vx, vy⟩ := gm.valid hv2
    obtain ⟨F, hF⟩ : ∃ F : Nat, F = 100 := ⟨100, rfl⟩
    refine ⟨F, ?_⟩
    have hl := loop r c xs ys F hv hr hc hx hy vx vy 20 F (cnt.sv r) (cnt.sv c) (by omega) (by rw [cnt.sv_length, cnt.sv_length]; omega) (sg.cnt_in r) (sg.cnt_in c) (by rw [cnt.sv_length]; exact hr) (by rw [cnt.sv_length]; exact hc)
    have r1 : (0 : Int) ≤ (r : Int) := Int.natCast_nonneg _
    have r2 : (r : Int) ≤ 1000 := by omega
    have c1 : (0 : Int) ≤ (c : Int) := Int.natCast_nonneg _
    have c2 : (c : Int) ≤ 1000 := by omega
    rw [start]
    simp -implicitDefEqProofs only [h3, h4, hv, r1, r2, c1, c2, Int.toNat_natCast, List.take_length, Nat.le_refl, and_self, eq_self, decide_true, decide_false, Bool.and_self, Bool.or_self, Bool.and_true, Bool.true_and, Bool.and_false, Bool.false_and, Bool.or_true, Bool.true_or, Bool.or_false, Bool.false_or, Bool.not_true, Bool.not_false, cond_true, cond_false]
    exact hl
  · cases h
theorem ok : EntOk Try.prog ⟨12, R⟩ :=
  ent_okAG (ks := [4, 10]) mixed (A := (orc [⟨13, iValidGame.R⟩, ⟨32, counting.R⟩, ⟨33, gOf.R⟩, ⟨31, gWorse.R⟩, ⟨34, leave.R⟩, ⟨29, gTurned.R⟩])) (orc_ok (by simp only [List.mem_cons, List.not_mem_nil, or_false, forall_eq_or_imp, forall_eq]; exact ⟨iValidGame.ok, counting.ok, gOf.ok, gWorse.ok, leave.ok, gTurned.ok⟩)) Try.func12 (by kernel_rfl) (by kernel_rfl) (n := 43) (ts := [2, 3, 4]) (hd := hd) (dr := dr) (cut := none) (by kernel_rfl) (by kernel_rfl) (by kernel_rfl) run
end iSurvivorsOf_t

namespace iSurvivorsOf_f
def dr : Nat → Dr := fun i => bif eqN i 3 then ⟨some [0, 1, 3, 4, 2, 5, 6, 7], false⟩ else ⟨none, false⟩
def R : List AVal → Option (Bool × AVal × List Blk)
  | [.agg [.int .i64 r, .int .i64 c, .ro (.ints .i64 xs) ma 1, .ro (.ints .i64 ys) mb 1]] => some (decide (ma = xs.length ∧ mb = ys.length ∧ ma ≤ 4611686018427387904 ∧ mb ≤ 4611686018427387904) && !gm.sp r c xs ys, .tup [.nils, .nils, .bool false], [])
  | _ => none
def hd : Nat → Head := fun _ => ⟨[1, 2, 3, 4, 5, 6], some 1⟩
noncomputable def L (f n : Nat) (s : State) := loopAt Try.prog (orc [⟨13, iValidGame.R⟩]) hd dr 0 f (bodyOf Try.f12) 0 [true, true, true] (retK Try.prog [2, 3, 4] 0 (some 0)) n s
theorem start (r c : Int) (xs ys : List Int) (f : Nat) :
  runFn Try.prog (orc [⟨13, iValidGame.R⟩]) hd dr (some 0) f (bodyOf Try.f12) 43 [2, 3, 4] [.agg [.int .i64 r, .int .i64 c, .ro (.ints .i64 xs) xs.length 1, .ro (.ints .i64 ys) ys.length 1]] []
  = (bif true && true && (true && true && (true && true && (true && true && true))) then bif decide (xs.length = xs.length ∧ ys.length = ys.length ∧ xs.length ≤ (4611686018427387904 : Nat) ∧ ys.length ≤ (4611686018427387904 : Nat)) && (true && (true && (true && (true && true))) && true || true && true) then bif !gm.sp r c xs ys then some (AVal.tup [AVal.nils, AVal.nils, AVal.bool false], []) else bif true && true then bif true && true then none else none else none else none else none) := by kernel_rfl
theorem run : ∀ args v new, R args = some (true, v, new) → ∃ fuel, runFn Try.prog (orc [⟨13, iValidGame.R⟩]) hd dr (some 0) fuel (bodyOf Try.f12) 43 [2, 3, 4] args [] = some (v, new) := by
  intro args v new h
  unfold R at h
  split at h
  · rename_i r c xs ma ys mb
    simp only [Option.some.injEq, Prod.mk.injEq, Bool.and_eq_true, decide_eq_true_eq, Bool.not_eq_true'] at h
    obtain ⟨⟨⟨rfl, rfl, h3, h4⟩, hv⟩, rfl, rfl⟩ := h
    refine ⟨xs.length, ?_⟩
    rw [start]
    simp -implicitDefEqProofs only [h3, h4, hv, and_self, eq_self, decide_true, decide_false, Bool.and_self, Bool.or_self, Bool.and_true, Bool.true_and, Bool.and_false, Bool.false_and, Bool.or_true, Bool.true_or, Bool.or_false, Bool.false_or, Bool.not_true, Bool.not_false, cond_true, cond_false]
  · cases h
theorem ok : EntOk Try.prog ⟨12, R⟩ :=
  ent_okA mixed (A := (orc [⟨13, iValidGame.R⟩])) (orc_ok (by simp only [List.mem_cons, List.not_mem_nil, or_false, forall_eq_or_imp, forall_eq]; exact iValidGame.ok)) Try.func12 (by kernel_rfl) (by kernel_rfl) (n := 43) (ts := [2, 3, 4]) (hd := hd) (dr := dr) (cut := (some 0)) (by kernel_rfl) (by kernel_rfl) (by kernel_rfl) run
end iSurvivorsOf_f

namespace iSurvivorsOf
def Rt := iSurvivorsOf_t.R
def Rf := iSurvivorsOf_f.R
theorem okt : EntOk Try.prog ⟨12, Rt⟩ := iSurvivorsOf_t.ok
theorem okf : EntOk Try.prog ⟨12, Rf⟩ := iSurvivorsOf_f.ok
end iSurvivorsOf




theorem sg.rows_small {r c : Int} {xs ys : List Int} (h : gm.sp r c xs ys = true) : (sg.rows.sv r.toNat c.toNat xs ys).length ≤ 1000000 := by
  obtain ⟨r, c, rfl, rfl, hr, hc, _⟩ := gm.valid h
  have := (sg.go_length c xs ys 20 (cnt.sv r) (cnt.sv c)).1
  rw [cnt.sv_length] at this
  unfold sg.rows.sv
  simp only [Int.toNat_natCast]; omega
theorem sg.cols_small {r c : Int} {xs ys : List Int} (h : gm.sp r c xs ys = true) : (sg.cols.sv r.toNat c.toNat xs ys).length ≤ 1000000 := by
  obtain ⟨r, c, rfl, rfl, hr, hc, _⟩ := gm.valid h
  have := (sg.go_length c xs ys 20 (cnt.sv r) (cnt.sv c)).2
  rw [cnt.sv_length] at this
  unfold sg.cols.sv
  simp only [Int.toNat_natCast]; omega




end Go.Proofs.Ytfbalfhekldkbaa.Ab
