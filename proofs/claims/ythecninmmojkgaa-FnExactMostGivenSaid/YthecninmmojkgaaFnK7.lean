/-
  Functions: rings that are held: the closure.
-/
import Derived.Test.YthecninmmojkgaaFnK6
import Derived.Test.YthecninmmojkgaaFnUA
import Derived.Test.YthecninmmojkgaaAbYe
import Derived.Test.YthecninmmojkgaaAbFrz
import Derived.Test.YthecninmmojkgaaFnI1
namespace Go.Proofs.Ythecninmmojkgaa.Ab
open Go
set_option linter.unusedVariables false
set_option linter.unusedSimpArgs false
set_option maxRecDepth 100000

-- numbers
namespace gvs
def vl (b : Nat → Bool) (v : Nat → Nat → Nat) : Nat → Nat → Nat → Nat
  | 0, _, c => c
  | d + 1, k, c => vl b v d (k + 1) (bif b k then v k c else c)
/-- How often the ring's own memory has been written. -/
def vn.sv (W : List (List Int)) : Nat → List Int → Nat → Nat
  | 0, _, c => c
  | N + 1, r, c => vl (fun k => can.sp r (gz (lr W r) k)) (fun k c => vn.sv W N (r ++ [gz (lr W r) k]) (c + 1)) (lr W r).length 0 c
end gvs

namespace kCloneR
def R : List AVal → Option (Bool × AVal × Nat)
  | [.ro (.ints .i64 xs) m 1] => some (decide (0 < m ∧ m ≤ xs.length ∧ m ≤ 1048576), .bun 0 (.ints .i64 (xs.take m)) m, 1)
  | _ => none
theorem ok : KOk Try.prog ⟨59, R⟩ := by
  refine KOk.of_ent slCloneR.ok fun args u n h => ?_
  unfold R at h
  split at h
  · rename_i xs m
    simp only [Option.some.injEq, Prod.mk.injEq, decide_eq_true_eq] at h
    obtain ⟨⟨h1, h2, h3⟩, rfl, rfl⟩ := h
    exact ⟨xs.take m, m, by simp [slCloneR.R, h1, h2, h3], rfl, rfl, by simp; omega⟩
  · cases h
end kCloneR

namespace gputY
def R (N : Nat) : List AVal → Heap → Nat → Option (Bool × AVal × Heap × Nat)
  | [.ptr 5 0 0, .ptr 3 0 0, .ptr 0 0 0, .ptr 2 0 0, .ptr 6 0 0], [⟨.cells [.ro (.rows .i64 W) m 1], 0⟩, ⟨.cells us, h⟩, ⟨.cells [.own 1 0 p h2 1], 0⟩, ⟨.cells [.int .i64 s], 0⟩, ⟨.typ (.ints .i64 r), g⟩, ⟨.cells [.own 4 0 q g2 1], 0⟩, ⟨.cells [.fn ff [.ptr 5 0 0, .ptr 3 0 0, .ptr 0 0 0, .ptr 2 0 0, .ptr 6 0 0]], 0⟩], mm => some (decide (m = W.length ∧ q = r.length ∧ p = us.length ∧ ff = 57 ∧ (q : Int) ≤ s ∧ s - (q : Int) < (N : Int) ∧ p + 8 ^ (s.toNat - q) ≤ 1000000 ∧ g2 = g ∧ h2 = h) && (gvs.gv.sp W s && (gvs.rg.sp W.length r && allBun.sp us)), .tup [], [⟨.cells [.ro (.rows .i64 W) m 1], 0⟩, ⟨.cells (us ++ bunsB.sv mm (gvs.gw.sv W (s.toNat - q) r)), (h + (gvs.gw.sv W (s.toNat - q) r).length)⟩, ⟨.cells [.own 1 0 (p + (gvs.gw.sv W (s.toNat - q) r).length) (h + (gvs.gw.sv W (s.toNat - q) r).length) 1], 0⟩, ⟨.cells [.int .i64 s], 0⟩, ⟨.typ (.ints .i64 (gvs.en.sv W (s.toNat - q) r)), (gvs.vn.sv W (s.toNat - q) r g)⟩, ⟨.cells [.own 4 0 q (gvs.vn.sv W (s.toNat - q) r g) 1], 0⟩, ⟨.cells [.fn ff [.ptr 5 0 0, .ptr 3 0 0, .ptr 0 0 0, .ptr 2 0 0, .ptr 6 0 0]], 0⟩], mm + (gvs.gw.sv W (s.toNat - q) r).length)
  | _, _, _ => none
def C (N : Nat) : YC := ⟨[⟨59, kCloneR.R⟩], [], [⟨57, 7, R N⟩], [], [], []⟩
def hd : Nat → HeadY := fun _ => ⟨[0, 4, 36, 37, 38], 7, [], [1]⟩
def en : Nat → List (List Nat) := fun i => bif eqN i 2 then [[0, 1, 2, 3, 4, 5], [1, 0, 2, 3, 4, 5], [1, 2, 0, 3, 4, 5], [1, 2, 3, 0, 4, 5]] else []
def cut : HeadY := ⟨[], 7, [], [1]⟩
noncomputable def L (N f n : Nat) (x : SX) := loopY Try.prog (orcV [⟨58, slContains.R⟩]) (C N) hd Dr.std en 7 f (bodyOf Try.f57) 0 [true, true] (retY Try.prog [] 7 cut) n x
theorem start (W : List (List Int)) (us : List AVal) (r : List Int) (s : Int) (g h mm N : Nat) (f : Nat) :
  runFnY Try.prog (orcV [⟨58, slContains.R⟩]) (C N) hd Dr.std en cut f (bodyOf Try.f57) 65 [] [.ptr 5 0 0, .ptr 3 0 0, .ptr 0 0 0, .ptr 2 0 0, .ptr 6 0 0] [⟨.cells [.ro (.rows .i64 W) W.length 1], 0⟩, ⟨.cells us, h⟩, ⟨.cells [.own 1 0 us.length h 1], 0⟩, ⟨.cells [.int .i64 s], 0⟩, ⟨.typ (.ints .i64 r), g⟩, ⟨.cells [.own 4 0 r.length g 1], 0⟩, ⟨.cells [.fn (57 : Nat) [.ptr 5 0 0, .ptr 3 0 0, .ptr 0 0 0, .ptr 2 0 0, .ptr 6 0 0]], 0⟩] mm
  = (bif true && true then bif true && true then bif (↑r.length : Int) == s then bif true && true then bif true && true then bif true && true then bif true && (decide ((0 : Int) ≤ IntKind.i64.wrap (s - (1 : Int))) && decide (IntKind.i64.wrap (s - (1 : Int)) < (↑r.length : Int))) then bif eqN g g && decide ((IntKind.i64.wrap (s - (1 : Int))).toNat < r.length) then bif true && (decide ((0 : Int) ≤ gz r (IntKind.i64.wrap (s - (1 : Int))).toNat) && decide (gz r (IntKind.i64.wrap (s - (1 : Int))).toNat < (↑W.length : Int))) then bif decide ((gz r (IntKind.i64.wrap (s - (1 : Int))).toNat).toNat < W.length) then bif true && true then bif decide ((0 : Int) < (↑r.length : Int)) then bif eqN g g && decide ((0 : Nat) < r.length) then bif true && (true && true) && (decide ((gr W (gz r (IntKind.i64.wrap (s - (1 : Int))).toNat).toNat).length ≤ (gr W (gz r (IntKind.i64.wrap (s - (1 : Int))).toNat).toNat).length ∧ (gr W (gz r (IntKind.i64.wrap (s - (1 : Int))).toNat).toNat).length ≤ (4611686018427387904 : Nat)) && (true && (true && true) || true && true)) then bif (List.take (gr W (gz r (IntKind.i64.wrap (s - (1 : Int))).toNat).toNat).length (gr W (gz r (IntKind.i64.wrap (s - (1 : Int))).toNat).toNat)).any (has.sp (gz r (0 : Nat))) then same.sv (bif true && true then bif true && true then bif eqN g g && true && (decide ((0 : Nat) < r.length ∧ r.length ≤ r.length ∧ r.length ≤ (1048576 : Nat)) && true) then bif (1 : Nat) == (1 : Nat) && (1 : Nat) == (1 : Nat) && (eqN h h && (true && true) && (true && (true && true) && (eqN (hlen us) us.length && (true && (true && true)) && (decide (us.length + (1 : Nat) ≤ (4611686018427387904 : Nat)) && decide ((us.length + (1 : Nat)) * (24 : Nat) ≤ (140737488355328 : Nat)))))) then bif true && (true && (true && decide ((0 : Nat) < (1 : Nat)) && true)) then bif true && (true && (true && (true && (true && (true && (true && true)))))) then bif allBun.sp (app us [AVal.bun (mm + (0 : Nat)) (Cont.ints IntKind.i64 (List.take r.length r)) r.length]) && true then some (AVal.tup [], [{ c := BC.cells [AVal.ro (Cont.rows IntKind.i64 W) W.length (1 : Nat)], ver := (0 : Nat) }, { c := BC.cells (app us [AVal.bun (mm + (0 : Nat)) (Cont.ints IntKind.i64 (List.take r.length r)) r.length]), ver := h + (1 : Nat) }, { c := BC.cells [AVal.own (1 : Nat) (0 : Nat) (us.length + (1 : Nat)) (h + (1 : Nat)) (1 : Nat)], ver := (0 : Nat) }, { c := BC.cells [AVal.int IntKind.i64 s], ver := (0 : Nat) }, { c := BC.typ (Cont.ints IntKind.i64 r), ver := g }, { c := BC.cells [AVal.own (4 : Nat) (0 : Nat) r.length g (1 : Nat)], ver := (0 : Nat) }, { c := BC.cells [AVal.fn (57 : Nat) [AVal.ptr (5 : Nat) (0 : Nat) (0 : Nat), AVal.ptr (3 : Nat) (0 : Nat) (0 : Nat), AVal.ptr (0 : Nat) (0 : Nat) (0 : Nat), AVal.ptr (2 : Nat) (0 : Nat) (0 : Nat), AVal.ptr (6 : Nat) (0 : Nat) (0 : Nat)]], ver := (0 : Nat) }], mm + (1 : Nat)) else none else none else none else none else none else none else none) (same.sv (bif true && true then bif true && true then bif eqN g g && true && (decide ((0 : Nat) < r.length ∧ r.length ≤ r.length ∧ r.length ≤ (1048576 : Nat)) && true) then bif (1 : Nat) == (1 : Nat) && (1 : Nat) == (1 : Nat) && (eqN h h && (true && true) && (true && (true && true) && (eqN (hlen us) us.length && (true && (true && true)) && (decide (us.length + (1 : Nat) ≤ (4611686018427387904 : Nat)) && decide ((us.length + (1 : Nat)) * (24 : Nat) ≤ (140737488355328 : Nat)))))) then bif true && (true && (true && decide ((0 : Nat) < (1 : Nat)) && true)) then bif true && (true && (true && (true && (true && (true && (true && true)))))) then bif allBun.sp (app us [AVal.bun (mm + (0 : Nat)) (Cont.ints IntKind.i64 (List.take r.length r)) r.length]) && true then some (AVal.tup [], [{ c := BC.cells [AVal.ro (Cont.rows IntKind.i64 W) W.length (1 : Nat)], ver := (0 : Nat) }, { c := BC.cells (app us [AVal.bun (mm + (0 : Nat)) (Cont.ints IntKind.i64 (List.take r.length r)) r.length]), ver := h + (1 : Nat) }, { c := BC.cells [AVal.own (1 : Nat) (0 : Nat) (us.length + (1 : Nat)) (h + (1 : Nat)) (1 : Nat)], ver := (0 : Nat) }, { c := BC.cells [AVal.int IntKind.i64 s], ver := (0 : Nat) }, { c := BC.typ (Cont.ints IntKind.i64 r), ver := g }, { c := BC.cells [AVal.own (4 : Nat) (0 : Nat) r.length g (1 : Nat)], ver := (0 : Nat) }, { c := BC.cells [AVal.fn (57 : Nat) [AVal.ptr (5 : Nat) (0 : Nat) (0 : Nat), AVal.ptr (3 : Nat) (0 : Nat) (0 : Nat), AVal.ptr (0 : Nat) (0 : Nat) (0 : Nat), AVal.ptr (2 : Nat) (0 : Nat) (0 : Nat), AVal.ptr (6 : Nat) (0 : Nat) (0 : Nat)]], ver := (0 : Nat) }], mm + (1 : Nat)) else none else none else none else none else none else none else none) (same.sv (bif true && true then bif eqN g g && true && (decide ((0 : Nat) < r.length ∧ r.length ≤ r.length ∧ r.length ≤ (1048576 : Nat)) && true) then bif true && true then bif (1 : Nat) == (1 : Nat) && (1 : Nat) == (1 : Nat) && (eqN h h && (true && true) && (true && (true && true) && (eqN (hlen us) us.length && (true && (true && true)) && (decide (us.length + (1 : Nat) ≤ (4611686018427387904 : Nat)) && decide ((us.length + (1 : Nat)) * (24 : Nat) ≤ (140737488355328 : Nat)))))) then bif true && (true && (true && decide ((0 : Nat) < (1 : Nat)) && true)) then bif true && (true && (true && (true && (true && (true && (true && true)))))) then bif allBun.sp (app us [AVal.bun (mm + (0 : Nat)) (Cont.ints IntKind.i64 (List.take r.length r)) r.length]) && true then some (AVal.tup [], [{ c := BC.cells [AVal.ro (Cont.rows IntKind.i64 W) W.length (1 : Nat)], ver := (0 : Nat) }, { c := BC.cells (app us [AVal.bun (mm + (0 : Nat)) (Cont.ints IntKind.i64 (List.take r.length r)) r.length]), ver := h + (1 : Nat) }, { c := BC.cells [AVal.own (1 : Nat) (0 : Nat) (us.length + (1 : Nat)) (h + (1 : Nat)) (1 : Nat)], ver := (0 : Nat) }, { c := BC.cells [AVal.int IntKind.i64 s], ver := (0 : Nat) }, { c := BC.typ (Cont.ints IntKind.i64 r), ver := g }, { c := BC.cells [AVal.own (4 : Nat) (0 : Nat) r.length g (1 : Nat)], ver := (0 : Nat) }, { c := BC.cells [AVal.fn (57 : Nat) [AVal.ptr (5 : Nat) (0 : Nat) (0 : Nat), AVal.ptr (3 : Nat) (0 : Nat) (0 : Nat), AVal.ptr (0 : Nat) (0 : Nat) (0 : Nat), AVal.ptr (2 : Nat) (0 : Nat) (0 : Nat), AVal.ptr (6 : Nat) (0 : Nat) (0 : Nat)]], ver := (0 : Nat) }], mm + (1 : Nat)) else none else none else none else none else none else none else none) (bif true && true then bif eqN g g && true && (decide ((0 : Nat) < r.length ∧ r.length ≤ r.length ∧ r.length ≤ (1048576 : Nat)) && true) then bif true && true then bif (1 : Nat) == (1 : Nat) && (1 : Nat) == (1 : Nat) && (eqN h h && (true && true) && (true && (true && true) && (eqN (hlen us) us.length && (true && (true && true)) && (decide (us.length + (1 : Nat) ≤ (4611686018427387904 : Nat)) && decide ((us.length + (1 : Nat)) * (24 : Nat) ≤ (140737488355328 : Nat)))))) then bif true && (true && (true && decide ((0 : Nat) < (1 : Nat)) && true)) then bif true && (true && (true && (true && (true && (true && (true && true)))))) then bif allBun.sp (app us [AVal.bun (mm + (0 : Nat)) (Cont.ints IntKind.i64 (List.take r.length r)) r.length]) && true then some (AVal.tup [], [{ c := BC.cells [AVal.ro (Cont.rows IntKind.i64 W) W.length (1 : Nat)], ver := (0 : Nat) }, { c := BC.cells (app us [AVal.bun (mm + (0 : Nat)) (Cont.ints IntKind.i64 (List.take r.length r)) r.length]), ver := h + (1 : Nat) }, { c := BC.cells [AVal.own (1 : Nat) (0 : Nat) (us.length + (1 : Nat)) (h + (1 : Nat)) (1 : Nat)], ver := (0 : Nat) }, { c := BC.cells [AVal.int IntKind.i64 s], ver := (0 : Nat) }, { c := BC.typ (Cont.ints IntKind.i64 r), ver := g }, { c := BC.cells [AVal.own (4 : Nat) (0 : Nat) r.length g (1 : Nat)], ver := (0 : Nat) }, { c := BC.cells [AVal.fn (57 : Nat) [AVal.ptr (5 : Nat) (0 : Nat) (0 : Nat), AVal.ptr (3 : Nat) (0 : Nat) (0 : Nat), AVal.ptr (0 : Nat) (0 : Nat) (0 : Nat), AVal.ptr (2 : Nat) (0 : Nat) (0 : Nat), AVal.ptr (6 : Nat) (0 : Nat) (0 : Nat)]], ver := (0 : Nat) }], mm + (1 : Nat)) else none else none else none else none else none else none else none))) else bif true && (true && (true && (true && (true && (true && (true && true)))))) then bif allBun.sp us && true then some (AVal.tup [], [{ c := BC.cells [AVal.ro (Cont.rows IntKind.i64 W) W.length (1 : Nat)], ver := (0 : Nat) }, { c := BC.cells us, ver := h }, { c := BC.cells [AVal.own (1 : Nat) (0 : Nat) us.length h (1 : Nat)], ver := (0 : Nat) }, { c := BC.cells [AVal.int IntKind.i64 s], ver := (0 : Nat) }, { c := BC.typ (Cont.ints IntKind.i64 r), ver := g }, { c := BC.cells [AVal.own (4 : Nat) (0 : Nat) r.length g (1 : Nat)], ver := (0 : Nat) }, { c := BC.cells [AVal.fn (57 : Nat) [AVal.ptr (5 : Nat) (0 : Nat) (0 : Nat), AVal.ptr (3 : Nat) (0 : Nat) (0 : Nat), AVal.ptr (0 : Nat) (0 : Nat) (0 : Nat), AVal.ptr (2 : Nat) (0 : Nat) (0 : Nat), AVal.ptr (6 : Nat) (0 : Nat) (0 : Nat)]], ver := (0 : Nat) }], mm) else none else none else none else none else none else none else none else none else none else none else none else none else none else bif true && true then bif true && true then bif true && true then bif true && (decide ((0 : Int) ≤ IntKind.i64.wrap ((↑r.length : Int) - (1 : Int))) && decide (IntKind.i64.wrap ((↑r.length : Int) - (1 : Int)) < (↑r.length : Int))) then bif eqN g g && decide ((IntKind.i64.wrap ((↑r.length : Int) - (1 : Int))).toNat < r.length) then bif true && (decide ((0 : Int) ≤ gz r (IntKind.i64.wrap ((↑r.length : Int) - (1 : Int))).toNat) && decide (gz r (IntKind.i64.wrap ((↑r.length : Int) - (1 : Int))).toNat < (↑W.length : Int))) then bif decide ((gz r (IntKind.i64.wrap ((↑r.length : Int) - (1 : Int))).toNat).toNat < W.length) then bif true && (true && (true && (true && (true && (true && (true && true)))))) then bif allBun.sp us && true then L N f f (mkX (65 : Nat) [((0 : Nat), AVal.ptr (5 : Nat) (0 : Nat) (0 : Nat)), ((4 : Nat), AVal.ptr (6 : Nat) (0 : Nat) (0 : Nat)), ((36 : Nat), AVal.ro (Cont.ints IntKind.i64 (gr W (gz r (IntKind.i64.wrap ((↑r.length : Int) - (1 : Int))).toNat).toNat)) (gr W (gz r (IntKind.i64.wrap ((↑r.length : Int) - (1 : Int))).toNat).toNat).length (1 : Nat)), ((37 : Nat), AVal.int IntKind.i64 (↑(gr W (gz r (IntKind.i64.wrap ((↑r.length : Int) - (1 : Int))).toNat).toNat).length : Int)), ((38 : Nat), AVal.int IntKind.i64 (0 : Int))] [{ c := BC.cells [AVal.ro (Cont.rows IntKind.i64 W) W.length (1 : Nat)], ver := (0 : Nat) }, { c := BC.cells us, ver := h }, { c := BC.cells [AVal.own (1 : Nat) (0 : Nat) us.length h (1 : Nat)], ver := (0 : Nat) }, { c := BC.cells [AVal.int IntKind.i64 s], ver := (0 : Nat) }, { c := BC.typ (Cont.ints IntKind.i64 r), ver := g }, { c := BC.cells [AVal.own (4 : Nat) (0 : Nat) r.length g (1 : Nat)], ver := (0 : Nat) }, { c := BC.cells [AVal.fn (57 : Nat) [AVal.ptr (5 : Nat) (0 : Nat) (0 : Nat), AVal.ptr (3 : Nat) (0 : Nat) (0 : Nat), AVal.ptr (0 : Nat) (0 : Nat) (0 : Nat), AVal.ptr (2 : Nat) (0 : Nat) (0 : Nat), AVal.ptr (6 : Nat) (0 : Nat) (0 : Nat)]], ver := (0 : Nat) }] mm) else none else none else none else none else none else none else none else none else none else none else none) := by kernel_rfl
theorem round (W : List (List Int)) (us : List AVal) (r c : List Int) (s : Int) (q p g h mm : Nat) (N f n2 : Nat) (l k : Nat) :
  L N f (n2 + 1) (mkX 65 [(0, .ptr 5 0 0), (4, .ptr 6 0 0), (36, .ro (.ints .i64 r) r.length 1), (37, .int .i64 ((l : Nat) : Int)), (38, .int .i64 ((k : Nat) : Int))] [⟨.cells [.ro (.rows .i64 W) W.length 1], 0⟩, ⟨.cells us, h⟩, ⟨.cells [.own 1 0 p h 1], 0⟩, ⟨.cells [.int .i64 s], 0⟩, ⟨.typ (.ints .i64 c), g⟩, ⟨.cells [.own 4 0 q g 1], 0⟩, ⟨.cells [.fn (57 : Nat) [.ptr 5 0 0, .ptr 3 0 0, .ptr 0 0 0, .ptr 2 0 0, .ptr 6 0 0]], 0⟩] mm)
  = (bif decide ((↑k : Int) < (↑l : Int)) then bif true && (decide ((0 : Int) ≤ (↑k : Int)) && decide ((↑k : Int) < (↑r.length : Int))) then bif decide ((↑k : Int).toNat < r.length) then bif true && true then bif decide ((0 : Int) < (↑q : Int)) then bif eqN g g && decide ((0 : Nat) < c.length) then bif decide (gz c (0 : Nat) < gz r (↑k : Int).toNat) then bif true && true then bif eqN g g && (true && true) && (decide (q ≤ c.length ∧ q ≤ (4611686018427387904 : Nat)) && (false && (true && true) || true && true)) then bif !(List.take q c).any (has.sp (gz r (↑k : Int).toNat)) then bif true && true then bif (1 : Nat) == (1 : Nat) && (1 : Nat) == (1 : Nat) && (eqN g g && (true && true) && (true && true && (decide (q + (List.take (1 : Nat) (List.drop (0 : Nat) ((List.replicate (1 : Nat) (0 : Int)).set (0 : Nat) (gz r (↑k : Int).toNat)))).length ≤ (4611686018427387904 : Nat)) && decide ((q + (List.take (1 : Nat) (List.drop (0 : Nat) ((List.replicate (1 : Nat) (0 : Int)).set (0 : Nat) (gz r (↑k : Int).toNat)))).length) * (8 : Nat) ≤ (140737488355328 : Nat))))) then bif decide (W.length = W.length ∧ q + (Cont.ints IntKind.i64 (List.take (1 : Nat) (List.drop (0 : Nat) ((List.replicate (1 : Nat) (0 : Int)).set (0 : Nat) (gz r (↑k : Int).toNat))))).len = (List.take q c ++ List.take (1 : Nat) (List.drop (0 : Nat) ((List.replicate (1 : Nat) (0 : Int)).set (0 : Nat) (gz r (↑k : Int).toNat)))).length ∧ p = us.length ∧ (57 : Nat) = (57 : FuncId) ∧ (↑(q + (Cont.ints IntKind.i64 (List.take (1 : Nat) (List.drop (0 : Nat) ((List.replicate (1 : Nat) (0 : Int)).set (0 : Nat) (gz r (↑k : Int).toNat))))).len) : Int) ≤ s ∧ s - (↑(q + (Cont.ints IntKind.i64 (List.take (1 : Nat) (List.drop (0 : Nat) ((List.replicate (1 : Nat) (0 : Int)).set (0 : Nat) (gz r (↑k : Int).toNat))))).len) : Int) < (↑N : Int) ∧ p + (8 : Nat) ^ (s.toNat - (q + (Cont.ints IntKind.i64 (List.take (1 : Nat) (List.drop (0 : Nat) ((List.replicate (1 : Nat) (0 : Int)).set (0 : Nat) (gz r (↑k : Int).toNat))))).len)) ≤ (1000000 : Nat) ∧ g + (1 : Nat) = g + (1 : Nat) ∧ h = h) && (gvs.gv.sp W s && (gvs.rg.sp W.length (List.take q c ++ List.take (1 : Nat) (List.drop (0 : Nat) ((List.replicate (1 : Nat) (0 : Int)).set (0 : Nat) (gz r (↑k : Int).toNat)))) && allBun.sp us)) then bif true && true then bif true && true then bif true && (decide ((0 : Int) ≤ IntKind.i64.wrap ((↑(q + (List.take (1 : Nat) (List.drop (0 : Nat) ((List.replicate (1 : Nat) (0 : Int)).set (0 : Nat) (gz r (↑k : Int).toNat)))).length) : Int) - (1 : Int))) && decide (IntKind.i64.wrap ((↑(q + (List.take (1 : Nat) (List.drop (0 : Nat) ((List.replicate (1 : Nat) (0 : Int)).set (0 : Nat) (gz r (↑k : Int).toNat)))).length) : Int) - (1 : Int)) ≤ (↑(q + (List.take (1 : Nat) (List.drop (0 : Nat) ((List.replicate (1 : Nat) (0 : Int)).set (0 : Nat) (gz r (↑k : Int).toNat)))).length) : Int)) && (true && (true || decide ((0 : Nat) < (IntKind.i64.wrap ((↑(q + (List.take (1 : Nat) (List.drop (0 : Nat) ((List.replicate (1 : Nat) (0 : Int)).set (0 : Nat) (gz r (↑k : Int).toNat)))).length) : Int) - (1 : Int))).toNat)))) then bif true && (true && (true && (true && (true && (true && (true && true)))))) then bif allBun.sp (us ++ bunsB.sv mm (gvs.gw.sv W (s.toNat - (q + (List.take (1 : Nat) (List.drop (0 : Nat) ((List.replicate (1 : Nat) (0 : Int)).set (0 : Nat) (gz r (↑k : Int).toNat)))).length)) (List.take q c ++ List.take (1 : Nat) (List.drop (0 : Nat) ((List.replicate (1 : Nat) (0 : Int)).set (0 : Nat) (gz r (↑k : Int).toNat)))))) && true then L N f n2 (mkX (65 : Nat) [((0 : Nat), AVal.ptr (5 : Nat) (0 : Nat) (0 : Nat)), ((4 : Nat), AVal.ptr (6 : Nat) (0 : Nat) (0 : Nat)), ((36 : Nat), AVal.ro (Cont.ints IntKind.i64 r) r.length (1 : Nat)), ((37 : Nat), AVal.int IntKind.i64 (↑l : Int)), ((38 : Nat), AVal.int IntKind.i64 (IntKind.i64.wrap ((↑k : Int) + (1 : Int))))] [{ c := BC.cells [AVal.ro (Cont.rows IntKind.i64 W) W.length (1 : Nat)], ver := (0 : Nat) }, { c := BC.cells (us ++ bunsB.sv mm (gvs.gw.sv W (s.toNat - (q + (List.take (1 : Nat) (List.drop (0 : Nat) ((List.replicate (1 : Nat) (0 : Int)).set (0 : Nat) (gz r (↑k : Int).toNat)))).length)) (List.take q c ++ List.take (1 : Nat) (List.drop (0 : Nat) ((List.replicate (1 : Nat) (0 : Int)).set (0 : Nat) (gz r (↑k : Int).toNat)))))), ver := h + (gvs.gw.sv W (s.toNat - (q + (List.take (1 : Nat) (List.drop (0 : Nat) ((List.replicate (1 : Nat) (0 : Int)).set (0 : Nat) (gz r (↑k : Int).toNat)))).length)) (List.take q c ++ List.take (1 : Nat) (List.drop (0 : Nat) ((List.replicate (1 : Nat) (0 : Int)).set (0 : Nat) (gz r (↑k : Int).toNat))))).length }, { c := BC.cells [AVal.own (1 : Nat) (0 : Nat) (p + (gvs.gw.sv W (s.toNat - (q + (List.take (1 : Nat) (List.drop (0 : Nat) ((List.replicate (1 : Nat) (0 : Int)).set (0 : Nat) (gz r (↑k : Int).toNat)))).length)) (List.take q c ++ List.take (1 : Nat) (List.drop (0 : Nat) ((List.replicate (1 : Nat) (0 : Int)).set (0 : Nat) (gz r (↑k : Int).toNat))))).length) (h + (gvs.gw.sv W (s.toNat - (q + (List.take (1 : Nat) (List.drop (0 : Nat) ((List.replicate (1 : Nat) (0 : Int)).set (0 : Nat) (gz r (↑k : Int).toNat)))).length)) (List.take q c ++ List.take (1 : Nat) (List.drop (0 : Nat) ((List.replicate (1 : Nat) (0 : Int)).set (0 : Nat) (gz r (↑k : Int).toNat))))).length) (1 : Nat)], ver := (0 : Nat) }, { c := BC.cells [AVal.int IntKind.i64 s], ver := (0 : Nat) }, { c := BC.typ (Cont.ints IntKind.i64 (gvs.en.sv W (s.toNat - (q + (List.take (1 : Nat) (List.drop (0 : Nat) ((List.replicate (1 : Nat) (0 : Int)).set (0 : Nat) (gz r (↑k : Int).toNat)))).length)) (List.take q c ++ List.take (1 : Nat) (List.drop (0 : Nat) ((List.replicate (1 : Nat) (0 : Int)).set (0 : Nat) (gz r (↑k : Int).toNat)))))), ver := gvs.vn.sv W (s.toNat - (q + (List.take (1 : Nat) (List.drop (0 : Nat) ((List.replicate (1 : Nat) (0 : Int)).set (0 : Nat) (gz r (↑k : Int).toNat)))).length)) (List.take q c ++ List.take (1 : Nat) (List.drop (0 : Nat) ((List.replicate (1 : Nat) (0 : Int)).set (0 : Nat) (gz r (↑k : Int).toNat)))) (g + (1 : Nat)) }, { c := BC.cells [AVal.own (4 : Nat) (0 : Nat) ((IntKind.i64.wrap ((↑(q + (List.take (1 : Nat) (List.drop (0 : Nat) ((List.replicate (1 : Nat) (0 : Int)).set (0 : Nat) (gz r (↑k : Int).toNat)))).length) : Int) - (1 : Int))).toNat - (0 : Nat)) (gvs.vn.sv W (s.toNat - (q + (List.take (1 : Nat) (List.drop (0 : Nat) ((List.replicate (1 : Nat) (0 : Int)).set (0 : Nat) (gz r (↑k : Int).toNat)))).length)) (List.take q c ++ List.take (1 : Nat) (List.drop (0 : Nat) ((List.replicate (1 : Nat) (0 : Int)).set (0 : Nat) (gz r (↑k : Int).toNat)))) (g + (1 : Nat))) (1 : Nat)], ver := (0 : Nat) }, { c := BC.cells [AVal.fn (57 : Nat) [AVal.ptr (5 : Nat) (0 : Nat) (0 : Nat), AVal.ptr (3 : Nat) (0 : Nat) (0 : Nat), AVal.ptr (0 : Nat) (0 : Nat) (0 : Nat), AVal.ptr (2 : Nat) (0 : Nat) (0 : Nat), AVal.ptr (6 : Nat) (0 : Nat) (0 : Nat)]], ver := (0 : Nat) }] (mm + (gvs.gw.sv W (s.toNat - (q + (List.take (1 : Nat) (List.drop (0 : Nat) ((List.replicate (1 : Nat) (0 : Int)).set (0 : Nat) (gz r (↑k : Int).toNat)))).length)) (List.take q c ++ List.take (1 : Nat) (List.drop (0 : Nat) ((List.replicate (1 : Nat) (0 : Int)).set (0 : Nat) (gz r (↑k : Int).toNat))))).length)) else none else none else none else none else none else none else none else none else bif true && (true && (true && (true && (true && (true && (true && true)))))) then bif allBun.sp us && true then L N f n2 (mkX (65 : Nat) [((0 : Nat), AVal.ptr (5 : Nat) (0 : Nat) (0 : Nat)), ((4 : Nat), AVal.ptr (6 : Nat) (0 : Nat) (0 : Nat)), ((36 : Nat), AVal.ro (Cont.ints IntKind.i64 r) r.length (1 : Nat)), ((37 : Nat), AVal.int IntKind.i64 (↑l : Int)), ((38 : Nat), AVal.int IntKind.i64 (IntKind.i64.wrap ((↑k : Int) + (1 : Int))))] [{ c := BC.cells [AVal.ro (Cont.rows IntKind.i64 W) W.length (1 : Nat)], ver := (0 : Nat) }, { c := BC.cells us, ver := h }, { c := BC.cells [AVal.own (1 : Nat) (0 : Nat) p h (1 : Nat)], ver := (0 : Nat) }, { c := BC.cells [AVal.int IntKind.i64 s], ver := (0 : Nat) }, { c := BC.typ (Cont.ints IntKind.i64 c), ver := g }, { c := BC.cells [AVal.own (4 : Nat) (0 : Nat) q g (1 : Nat)], ver := (0 : Nat) }, { c := BC.cells [AVal.fn (57 : Nat) [AVal.ptr (5 : Nat) (0 : Nat) (0 : Nat), AVal.ptr (3 : Nat) (0 : Nat) (0 : Nat), AVal.ptr (0 : Nat) (0 : Nat) (0 : Nat), AVal.ptr (2 : Nat) (0 : Nat) (0 : Nat), AVal.ptr (6 : Nat) (0 : Nat) (0 : Nat)]], ver := (0 : Nat) }] mm) else none else none else none else none else bif true && (true && (true && (true && (true && (true && (true && true)))))) then bif allBun.sp us && true then L N f n2 (mkX (65 : Nat) [((0 : Nat), AVal.ptr (5 : Nat) (0 : Nat) (0 : Nat)), ((4 : Nat), AVal.ptr (6 : Nat) (0 : Nat) (0 : Nat)), ((36 : Nat), AVal.ro (Cont.ints IntKind.i64 r) r.length (1 : Nat)), ((37 : Nat), AVal.int IntKind.i64 (↑l : Int)), ((38 : Nat), AVal.int IntKind.i64 (IntKind.i64.wrap ((↑k : Int) + (1 : Int))))] [{ c := BC.cells [AVal.ro (Cont.rows IntKind.i64 W) W.length (1 : Nat)], ver := (0 : Nat) }, { c := BC.cells us, ver := h }, { c := BC.cells [AVal.own (1 : Nat) (0 : Nat) p h (1 : Nat)], ver := (0 : Nat) }, { c := BC.cells [AVal.int IntKind.i64 s], ver := (0 : Nat) }, { c := BC.typ (Cont.ints IntKind.i64 c), ver := g }, { c := BC.cells [AVal.own (4 : Nat) (0 : Nat) q g (1 : Nat)], ver := (0 : Nat) }, { c := BC.cells [AVal.fn (57 : Nat) [AVal.ptr (5 : Nat) (0 : Nat) (0 : Nat), AVal.ptr (3 : Nat) (0 : Nat) (0 : Nat), AVal.ptr (0 : Nat) (0 : Nat) (0 : Nat), AVal.ptr (2 : Nat) (0 : Nat) (0 : Nat), AVal.ptr (6 : Nat) (0 : Nat) (0 : Nat)]], ver := (0 : Nat) }] mm) else none else none else none else none else none else none else none else bif true && (true && (true && (true && (true && (true && (true && true)))))) then bif allBun.sp us && true then bif true && (true && (true && (true && (true && (true && (true && true)))))) then bif allBun.sp us && true then some (AVal.tup [], [{ c := BC.cells [AVal.ro (Cont.rows IntKind.i64 W) W.length (1 : Nat)], ver := (0 : Nat) }, { c := BC.cells us, ver := h }, { c := BC.cells [AVal.own (1 : Nat) (0 : Nat) p h (1 : Nat)], ver := (0 : Nat) }, { c := BC.cells [AVal.int IntKind.i64 s], ver := (0 : Nat) }, { c := BC.typ (Cont.ints IntKind.i64 c), ver := g }, { c := BC.cells [AVal.own (4 : Nat) (0 : Nat) q g (1 : Nat)], ver := (0 : Nat) }, { c := BC.cells [AVal.fn (57 : Nat) [AVal.ptr (5 : Nat) (0 : Nat) (0 : Nat), AVal.ptr (3 : Nat) (0 : Nat) (0 : Nat), AVal.ptr (0 : Nat) (0 : Nat) (0 : Nat), AVal.ptr (2 : Nat) (0 : Nat) (0 : Nat), AVal.ptr (6 : Nat) (0 : Nat) (0 : Nat)]], ver := (0 : Nat) }], mm) else none else none else none else none) := by kernel_rfl
theorem allBun_one (i : Nat) (c : Cont) (n : Nat) : allBun.sp [.bun i c n] = true := rfl
theorem Cok {N : Nat} (ih : EntYOk Try.prog ⟨57, 7, R N⟩) : YCok Try.prog (C N) :=
  ⟨by simp only [C, List.mem_cons, List.not_mem_nil, or_false, forall_eq]; exact kCloneR.ok, by simp [C], by simp only [C, List.mem_cons, List.not_mem_nil, or_false, forall_eq]; exact ih⟩
theorem loop (W : List (List Int)) (r : List Int) (M N D B f : Nat) (hB : 8 ^ D ≤ B) (hv : gvs.gv.sp W ((M : Nat) : Int) = true) (hr : gvs.Rg W.length r) (hL : r.length + (D + 1) = M) (hN : D < N) : ∀ (d k n2 : Nat) (c C : List Int) (us : List AVal) (p g G h mm : Nat) (Y : List (List Int)), k + d = (gvs.lr W r).length → d < n2 → c.take r.length = r → r.length ≤ c.length → p = us.length → p + d * B ≤ 1000000 → allBun.sp us = true → gvs.la (fun k => gvs.can.sp r (gz (gvs.lr W r) k)) (fun k => gvs.en.sv W D (r ++ [gz (gvs.lr W r) k])) d k c = C → gvs.vl (fun k => gvs.can.sp r (gz (gvs.lr W r) k)) (fun k c => gvs.vn.sv W D (r ++ [gz (gvs.lr W r) k]) (c + 1)) d k g = G → gvs.cat (fun k => bif gvs.can.sp r (gz (gvs.lr W r) k) then gvs.gw.sv W D (r ++ [gz (gvs.lr W r) k]) else []) d k = Y →
    L N f n2 (mkX 65 [(0, .ptr 5 0 0), (4, .ptr 6 0 0), (36, .ro (.ints .i64 (gvs.lr W r)) (gvs.lr W r).length 1), (37, .int .i64 (((gvs.lr W r).length : Nat) : Int)), (38, .int .i64 ((k : Nat) : Int))] [⟨.cells [.ro (.rows .i64 W) W.length 1], 0⟩, ⟨.cells us, h⟩, ⟨.cells [.own 1 0 p h 1], 0⟩, ⟨.cells [.int .i64 ((M : Nat) : Int)], 0⟩, ⟨.typ (.ints .i64 c), g⟩, ⟨.cells [.own 4 0 r.length g 1], 0⟩, ⟨.cells [.fn (57 : Nat) [.ptr 5 0 0, .ptr 3 0 0, .ptr 0 0 0, .ptr 2 0 0, .ptr 6 0 0]], 0⟩] mm) = some (.tup [], [⟨.cells [.ro (.rows .i64 W) W.length 1], 0⟩, ⟨.cells (us ++ bunsB.sv mm Y), (h + Y.length)⟩, ⟨.cells [.own 1 0 (p + Y.length) (h + Y.length) 1], 0⟩, ⟨.cells [.int .i64 ((M : Nat) : Int)], 0⟩, ⟨.typ (.ints .i64 C), G⟩, ⟨.cells [.own 4 0 r.length G 1], 0⟩, ⟨.cells [.fn (57 : Nat) [.ptr 5 0 0, .ptr 3 0 0, .ptr 0 0 0, .ptr 2 0 0, .ptr 6 0 0]], 0⟩], mm + Y.length) := by
  obtain ⟨g0, hL2, hL4⟩ := gvs.valid hv
  obtain ⟨l8, lin⟩ := gvs.lr_in g0 hr
  have hp0 := hr.pos
  intro d
  induction d with
  | zero =>
    intro k n2 c C us p g G h mm Y hk hn tc lc hp ho hu hC hG hY
    obtain ⟨n2, rfl⟩ : ∃ x, n2 = x + 1 := ⟨n2 - 1, by omega⟩
    rw [gvs.cat] at hY
    rw [gvs.la] at hC
    rw [gvs.vl] at hG
    subst hY
    subst hC
    subst hG
    rw [round]
    simp -implicitDefEqProofs (disch := omega) only [eqN_eq, beq_self_eq_true, hlen_eq, app_eq, allBun_app, hu, take_one, set_one, decide_eq_true, decide_eq_false, IntWalk.i64_in, beqT, beqF, bneT, bneF, nat_succ, ← Int.natCast_mul, ← Int.natCast_add, Int.toNat_natCast, Int.zero_mul, Int.zero_add, Int.add_zero, Nat.zero_add, Nat.add_zero, Nat.zero_mul, List.length_singleton, List.length_append, List.length_nil, List.length_cons, List.take_length, List.drop_zero, List.replicate_zero, List.take_nil, List.nil_append, Nat.reduceBEq, Nat.reduceMul, Nat.reduceLeDiff, eq_self, and_self, true_and, and_true, decide_true, decide_false, Bool.and_self, Bool.or_self, Bool.and_true, Bool.true_and, Bool.and_false, Bool.false_and, Bool.or_true, Bool.true_or, Bool.or_false, Bool.false_or, Bool.not_true, Bool.not_false, cond_true, cond_false]
    simp only [bunsB.sv, List.append_nil, List.length_nil, Nat.add_zero]
  | succ d ih =>
    intro k n2 c C us p g G h mm Y hk hn tc lc hp ho hu hC hG hY
    obtain ⟨n2, rfl⟩ : ∃ x, n2 = x + 1 := ⟨n2 - 1, by omega⟩
    rw [gvs.cat] at hY
    rw [gvs.la] at hC
    rw [gvs.vl] at hG
    rw [Nat.add_mul, Nat.one_mul] at ho
    have z0 := gvs.gz_take tc (k := 0) (by omega)
    rw [round]
    cases hx : gvs.can.sp r (gz (gvs.lr W r) k)
    · rw [hx, cond_false] at hC hG hY
      rw [List.nil_append] at hY
      have g2 := ih (k + 1) n2 c C us p g G h mm Y (by omega) (by omega) tc lc hp (by omega) hu hC hG hY
      unfold gvs.can.sp at hx
      by_cases c1 : gz r 0 < gz (gvs.lr W r) k
      · rw [decide_eq_true c1, Bool.true_and] at hx
        simp -implicitDefEqProofs (disch := omega) only [eqN_eq, beq_self_eq_true, hlen_eq, app_eq, allBun_app, hu, z0, tc, hx, take_one, set_one, decide_eq_true, decide_eq_false, IntWalk.i64_in, beqT, beqF, bneT, bneF, nat_succ, ← Int.natCast_mul, ← Int.natCast_add, Int.toNat_natCast, Int.zero_mul, Int.zero_add, Int.add_zero, Nat.zero_add, Nat.add_zero, Nat.zero_mul, List.length_singleton, List.length_append, List.length_nil, List.length_cons, List.take_length, List.drop_zero, List.replicate_zero, List.take_nil, List.nil_append, Nat.reduceBEq, Nat.reduceMul, Nat.reduceLeDiff, eq_self, and_self, true_and, and_true, decide_true, decide_false, Bool.and_self, Bool.or_self, Bool.and_true, Bool.true_and, Bool.and_false, Bool.false_and, Bool.or_true, Bool.true_or, Bool.or_false, Bool.false_or, Bool.not_true, Bool.not_false, cond_true, cond_false]
        exact g2
      · simp -implicitDefEqProofs (disch := omega) only [eqN_eq, beq_self_eq_true, hlen_eq, app_eq, allBun_app, hu, z0, take_one, set_one, decide_eq_true, decide_eq_false, IntWalk.i64_in, beqT, beqF, bneT, bneF, nat_succ, ← Int.natCast_mul, ← Int.natCast_add, Int.toNat_natCast, Int.zero_mul, Int.zero_add, Int.add_zero, Nat.zero_add, Nat.add_zero, Nat.zero_mul, List.length_singleton, List.length_append, List.length_nil, List.length_cons, List.take_length, List.drop_zero, List.replicate_zero, List.take_nil, List.nil_append, Nat.reduceBEq, Nat.reduceMul, Nat.reduceLeDiff, eq_self, and_self, true_and, and_true, decide_true, decide_false, Bool.and_self, Bool.or_self, Bool.and_true, Bool.true_and, Bool.and_false, Bool.false_and, Bool.or_true, Bool.true_or, Bool.or_false, Bool.false_or, Bool.not_true, Bool.not_false, cond_true, cond_false]
        exact g2
    · rw [hx, cond_true] at hC hG hY
      have hq := hr.add (lin k (by omega)) hx
      have hq2 := gvs.rg_iff.2 hq
      have hb := gvs.gw_le g0 D _ hq
      obtain ⟨n1, n2'⟩ := gvs.en_take W D (r ++ [gz (gvs.lr W r) k])
      rw [List.length_append, List.length_singleton] at n1 n2'
      have n3 : (gvs.en.sv W D (r ++ [gz (gvs.lr W r) k])).take r.length = r := by
        have h3 := congrArg (List.take r.length) n1
        rw [List.take_take, Nat.min_eq_left (by omega)] at h3
        rw [h3, List.take_append_of_le_length (Nat.le_refl _), List.take_of_length_le (Nat.le_refl _)]
      have eD : M - (r.length + 1) = D := by omega
      have wl : IntKind.i64.wrap (((r.length + 1 : Nat) : Int) - 1) = ((r.length : Nat) : Int) := by
        rw [IntWalk.i64_in _ (by omega)]; omega
      have wl2 : ((r.length + 1 : Nat) : Int) - 1 = ((r.length : Nat) : Int) := by omega
      have hx2 := hx
      unfold gvs.can.sp at hx2
      rw [Bool.and_eq_true, decide_eq_true_eq] at hx2
      obtain ⟨c1, c2⟩ := hx2
      obtain ⟨Y2, hY2⟩ : ∃ y, gvs.cat (fun k => bif gvs.can.sp r (gz (gvs.lr W r) k) then gvs.gw.sv W D (r ++ [gz (gvs.lr W r) k]) else []) d (k + 1) = y := ⟨_, rfl⟩
      rw [hY2] at hY
      obtain ⟨A, hA⟩ : ∃ y, gvs.gw.sv W D (r ++ [gz (gvs.lr W r) k]) = y := ⟨_, rfl⟩
      rw [hA] at hY hb
      have g2 := ih (k + 1) n2 _ C (us ++ bunsB.sv mm A) (p + A.length) _ G (h + A.length) (mm + A.length) Y2 (by omega) (by omega) n3 (by omega) (by rw [List.length_append, bunsB_len, hp]) (by omega) (by rw [allBun_app, hu, allBun_bunsB]; rfl) hC hG hY2
      rw [List.append_assoc, ← bunsB_app, hY, Nat.add_assoc p, Nat.add_assoc h, Nat.add_assoc mm, ← List.length_append, hY] at g2
      have hub := allBun_bunsB mm A
      simp -implicitDefEqProofs (disch := omega) only [eqN_eq, beq_self_eq_true, hlen_eq, app_eq, allBun_app, hu, hA, hub, z0, tc, c2, hv, hq2, eD, wl, wl2, Cont.len, Nat.sub_zero, take_one, set_one, decide_eq_true, decide_eq_false, IntWalk.i64_in, beqT, beqF, bneT, bneF, nat_succ, ← Int.natCast_mul, ← Int.natCast_add, Int.toNat_natCast, Int.zero_mul, Int.zero_add, Int.add_zero, Nat.zero_add, Nat.add_zero, Nat.zero_mul, List.length_singleton, List.length_append, List.length_nil, List.length_cons, List.take_length, List.drop_zero, List.replicate_zero, List.take_nil, List.nil_append, Nat.reduceBEq, Nat.reduceMul, Nat.reduceLeDiff, eq_self, and_self, true_and, and_true, decide_true, decide_false, Bool.and_self, Bool.or_self, Bool.and_true, Bool.true_and, Bool.and_false, Bool.false_and, Bool.or_true, Bool.true_or, Bool.or_false, Bool.false_or, Bool.not_true, Bool.not_false, cond_true, cond_false]
      exact g2
theorem run (N : Nat) : ∀ args H m v H' m', R (N + 1) args H m = some (true, v, H', m') → ∃ fuel, runFnY Try.prog (orcV [⟨58, slContains.R⟩]) (C N) hd Dr.std en cut fuel (bodyOf Try.f57) 65 [] args H m = some (v, H', m') := by
  intro args H mm v H' m' h0
  unfold R at h0
  split at h0
  · rename_i W m us h p h2 s r g q g2 ff
    simp only [Option.some.injEq, Prod.mk.injEq, decide_eq_true_eq, Bool.and_eq_true] at h0
    obtain ⟨⟨⟨rfl, hq0, hp0, rfl, h1, h2', h3, rfl, rfl⟩, hv, hr2, hu⟩, rfl, rfl, rfl⟩ := h0
    subst hq0
    subst hp0
    have hr := gvs.rg_iff.1 hr2
    obtain ⟨g0, hL2, hL4⟩ := gvs.valid hv
    obtain ⟨l8, lin⟩ := gvs.lr_in g0 hr
    obtain ⟨x0, x1⟩ := hr.last
    have hp := hr.pos
    have el : gr W (gz r (r.length - 1)).toNat = gvs.lr W r := rfl
    have wl : IntKind.i64.wrap ((r.length : Int) - 1) = ((r.length - 1 : Nat) : Int) := by
      rw [IntWalk.i64_in _ (by omega)]; omega
    have tr : r.take r.length = r := List.take_of_length_le (Nat.le_refl _)
    obtain ⟨F, hF⟩ : ∃ F : Nat, F = 100 := ⟨100, rfl⟩
    obtain ⟨M, rfl⟩ : ∃ x : Nat, s = x := ⟨s.toNat, by omega⟩
    rw [Int.toNat_natCast] at h3 ⊢
    refine ⟨F, ?_⟩
    by_cases c : r.length = M
    · subst c
      have e : r.length - r.length = 0 := by omega
      have h4 : us.length ≤ 1000000 := Nat.le_trans (Nat.le_add_right _ _) h3
      rw [e, start, gvs.en.sv, gvs.gw.sv, gvs.vn.sv]
      cases hc : (gvs.lr W r).any (has.sp (gz r 0))
      · rw [cond_false]
        simp -implicitDefEqProofs (disch := omega) only [eqN_eq, beq_self_eq_true, hlen_eq, app_eq, allBun_app, hu, el, wl, hc, tr, allBun_one, take_one, set_one, decide_eq_true, decide_eq_false, IntWalk.i64_in, beqT, beqF, bneT, bneF, nat_succ, ← Int.natCast_mul, ← Int.natCast_add, Int.toNat_natCast, Int.zero_mul, Int.zero_add, Int.add_zero, Nat.zero_add, Nat.add_zero, Nat.zero_mul, List.length_singleton, List.length_append, List.length_nil, List.length_cons, List.take_length, List.drop_zero, List.replicate_zero, List.take_nil, List.nil_append, Nat.reduceBEq, Nat.reduceMul, Nat.reduceLeDiff, eq_self, and_self, true_and, and_true, decide_true, decide_false, Bool.and_self, Bool.or_self, Bool.and_true, Bool.true_and, Bool.and_false, Bool.false_and, Bool.or_true, Bool.true_or, Bool.or_false, Bool.false_or, Bool.not_true, Bool.not_false, cond_true, cond_false]
        simp only [bunsB.sv, List.append_nil, List.length_nil, Nat.add_zero]
      · rw [cond_true]
        simp -implicitDefEqProofs (disch := omega) only [eqN_eq, beq_self_eq_true, hlen_eq, app_eq, allBun_app, hu, el, wl, hc, tr, allBun_one, take_one, set_one, decide_eq_true, decide_eq_false, IntWalk.i64_in, beqT, beqF, bneT, bneF, nat_succ, ← Int.natCast_mul, ← Int.natCast_add, Int.toNat_natCast, Int.zero_mul, Int.zero_add, Int.add_zero, Nat.zero_add, Nat.add_zero, Nat.zero_mul, List.length_singleton, List.length_append, List.length_nil, List.length_cons, List.take_length, List.drop_zero, List.replicate_zero, List.take_nil, List.nil_append, Nat.reduceBEq, Nat.reduceMul, Nat.reduceLeDiff, eq_self, and_self, true_and, and_true, decide_true, decide_false, Bool.and_self, Bool.or_self, Bool.and_true, Bool.true_and, Bool.and_false, Bool.false_and, Bool.or_true, Bool.true_or, Bool.or_false, Bool.false_or, Bool.not_true, Bool.not_false, cond_true, cond_false]
        simp only [bunsB.sv, same_rfl, List.length_singleton, Nat.add_zero]
    · obtain ⟨D, hD⟩ : ∃ D, M - r.length = D + 1 := ⟨M - r.length - 1, by omega⟩
      rw [hD, Nat.pow_succ] at h3
      have hm : (gvs.lr W r).length * 8 ^ D ≤ 8 * 8 ^ D := Nat.mul_le_mul_right _ l8
      have g3 := loop W r M N D (8 ^ D) F (Nat.le_refl _) hv hr (by omega) (by omega) (gvs.lr W r).length 0 F r _ us us.length g2 _ h2 mm (gvs.gw.sv W (D + 1) r) (by omega) (by omega) tr (Nat.le_refl _) rfl (by omega) hu rfl rfl rfl
      rw [hD, start]
      simp -implicitDefEqProofs (disch := omega) only [eqN_eq, beq_self_eq_true, hlen_eq, app_eq, allBun_app, hu, el, wl, take_one, set_one, decide_eq_true, decide_eq_false, IntWalk.i64_in, beqT, beqF, bneT, bneF, nat_succ, ← Int.natCast_mul, ← Int.natCast_add, Int.toNat_natCast, Int.zero_mul, Int.zero_add, Int.add_zero, Nat.zero_add, Nat.add_zero, Nat.zero_mul, List.length_singleton, List.length_append, List.length_nil, List.length_cons, List.take_length, List.drop_zero, List.replicate_zero, List.take_nil, List.nil_append, Nat.reduceBEq, Nat.reduceMul, Nat.reduceLeDiff, eq_self, and_self, true_and, and_true, decide_true, decide_false, Bool.and_self, Bool.or_self, Bool.and_true, Bool.true_and, Bool.and_false, Bool.false_and, Bool.or_true, Bool.true_or, Bool.or_false, Bool.false_or, Bool.not_true, Bool.not_false, cond_true, cond_false]
      exact g3
  · cases h0
theorem low (N : Nat) : ∀ args H m v H' m', R N args H m = some (true, v, H', m') → AVal.inR.inRs 7 args = true ∧ blksIn 7 7 H = true ∧ H.length = 7 ∧ H'.length = 7 := by
  intro args H mm v H' m' h0
  unfold R at h0
  split at h0
  · rename_i W m us h p h2 s r g q g2 ff
    simp only [Option.some.injEq, Prod.mk.injEq, decide_eq_true_eq, Bool.and_eq_true] at h0
    obtain ⟨⟨_, hv, hr2, hu⟩, rfl, rfl, rfl⟩ := h0
    refine ⟨rfl, ?_, rfl, rfl⟩
    simp only [blksIn, BC.inR, allBun_in hu 7, AVal.inR.inRs, AVal.inR]
    rfl
  · cases h0
theorem ok : ∀ N, EntYOk Try.prog ⟨57, 7, R N⟩ := by
  intro N
  induction N with
  | zero =>
    have hno : ∀ args H m v H' m', R 0 args H m = some (true, v, H', m') → False := by
      intro args H m v H' m' h
      unfold R at h
      split at h
      · simp only [Option.some.injEq, Prod.mk.injEq, Bool.and_eq_true, decide_eq_true_eq] at h
        omega
      · cases h
    exact ⟨⟨_, Try.func57, by kernel_rfl, by kernel_rfl⟩, fun args H m v H' m' h => (hno _ _ _ _ _ _ h).elim, fun args H m v H' m' h => (hno _ _ _ _ _ _ h).elim⟩
  | succ N ih => exact entY_ok mixed (A := (orcV [⟨58, slContains.R⟩])) (orcV_ok (by simp only [List.mem_cons, List.not_mem_nil, or_false, forall_eq_or_imp, forall_eq]; exact slContains.ok)) (Cok ih) rfl Try.func57 (by kernel_rfl) (by kernel_rfl) (n := 65) (ts := []) (hd := hd) (dr := Dr.std) (en := en) (cut := cut) (by kernel_rfl) (by kernel_rfl) (by kernel_rfl) (low (N + 1)) (run N)
end gputY


namespace kGiveRings
def R : List AVal → Option (Bool × AVal × Nat)
  | [.ro (.rows .i64 W) m 1, .int .i64 l] => some (decide (m = W.length) && gvs.gv.sp W l, .tup [.bun 0 (.rows .i64 (gvs.rs.sv W l.toNat)) (gvs.rs.sv W l.toNat).length, .bool true], 1)
  | _ => none
def C : YC := ⟨[], [], [⟨57, 7, gputY.R 10⟩], [], [34], []⟩
def hd : Nat → HeadY := fun i => bif eqN i 0 then ⟨[1, 2, 6, 7], 3, [7], [1]⟩ else ⟨[1, 2, 6, 7, 8, 9, 24, 25], 7, [], [1]⟩
def en : Nat → List (List Nat) := fun _ => []
def cut : HeadY := ⟨[], 4, [], [1]⟩
noncomputable def L0 (f n : Nat) (x : SX) := loopY Try.prog (orcV [⟨56, areGives.R⟩]) C hd Dr.std en 0 f (bodyOf Try.f40) 0 [true, true, true, false, true] (retY Try.prog [4, 5] 0 cut) n x
noncomputable def L2 (f n n2 : Nat) (x : SX) := loopY Try.prog (orcV [⟨56, areGives.R⟩]) C hd Dr.std en 0 f (bodyAt (bodyOf Try.f40) [true, true, true, false, true]) 0 [true, false, true, true, true, true] (iterY (normC 0 (hd 0)) (L0 f n) (contY Try.prog (orcV [⟨56, areGives.R⟩]) C hd Dr.std en 0 f (bodyOf Try.f40) 0 [true, true, true, false, true] (retY Try.prog [4, 5] 0 cut))) n2 x
theorem start (W : List (List Int)) (l : Int) (f : Nat) :
  runFnY Try.prog (orcV [⟨56, areGives.R⟩]) C hd Dr.std en cut f (bodyOf Try.f40) 38 [4, 5] [.ro (.rows .i64 W) W.length 1, .int .i64 l] [] 0
  = (bif true && true then bif true && (true && true) && (decide (W.length = W.length ∧ W.length ≤ (4611686018427387903 : Nat)) && short.sp (4611686018427387903 : Nat) W && (true && (true && true) || true && true)) then bif !gvs.gv.sp W l then none else bif allBun.sp [] && true then L0 f f (mkX (38 : Nat) [((1 : Nat), AVal.int IntKind.i64 l), ((2 : Nat), AVal.ptr (0 : Nat) (0 : Nat) (0 : Nat)), ((6 : Nat), AVal.ptr (2 : Nat) (0 : Nat) (0 : Nat)), ((7 : Nat), AVal.ptr (3 : Nat) (0 : Nat) (0 : Nat))] [{ c := BC.cells [AVal.ro (Cont.rows IntKind.i64 W) W.length (1 : Nat)], ver := (0 : Nat) }, { c := BC.cells [], ver := (0 : Nat) }, { c := BC.cells [AVal.own (1 : Nat) (0 : Nat) (0 : Nat) (0 : Nat) (1 : Nat)], ver := (0 : Nat) }, { c := BC.cells [AVal.int IntKind.i64 (2 : Int)], ver := (0 : Nat) }] (0 : Nat)) else none else none else none) := by kernel_rfl
theorem round0 (W : List (List Int)) (us : List AVal) (l s : Int) (p h mm f n : Nat) :
  L0 f (n + 1) (mkX 38 [(1, .int .i64 l), (2, .ptr 0 0 0), (6, .ptr 2 0 0), (7, .ptr 3 0 0)] [⟨.cells [.ro (.rows .i64 W) W.length 1], 0⟩, ⟨.cells us, h⟩, ⟨.cells [.own 1 0 p h 1], 0⟩, ⟨.cells [.int .i64 s], 0⟩] mm)
  = (bif true && true then bif decide (s ≤ l) then bif true && true then bif true && (true && (true && (true && (true && (true && (true && true)))))) then bif allBun.sp us && true then L2 f n f (mkX (38 : Nat) [((1 : Nat), AVal.int IntKind.i64 l), ((2 : Nat), AVal.ptr (0 : Nat) (0 : Nat) (0 : Nat)), ((6 : Nat), AVal.ptr (2 : Nat) (0 : Nat) (0 : Nat)), ((7 : Nat), AVal.ptr (3 : Nat) (0 : Nat) (0 : Nat)), ((8 : Nat), AVal.ptr (5 : Nat) (0 : Nat) (0 : Nat)), ((9 : Nat), AVal.ptr (6 : Nat) (0 : Nat) (0 : Nat)), ((24 : Nat), AVal.int IntKind.i64 (↑W.length : Int)), ((25 : Nat), AVal.int IntKind.i64 (0 : Int))] [{ c := BC.cells [AVal.ro (Cont.rows IntKind.i64 W) W.length (1 : Nat)], ver := (0 : Nat) }, { c := BC.cells us, ver := h }, { c := BC.cells [AVal.own (1 : Nat) (0 : Nat) p h (1 : Nat)], ver := (0 : Nat) }, { c := BC.cells [AVal.int IntKind.i64 s], ver := (0 : Nat) }, { c := BC.typ (Cont.ints IntKind.i64 (List.replicate (0 : Nat) (0 : Int))), ver := (0 : Nat) }, { c := BC.cells [AVal.own (4 : Nat) (0 : Nat) (0 : Nat) (0 : Nat) (1 : Nat)], ver := (0 : Nat) }, { c := BC.cells [AVal.fn (57 : Nat) [AVal.ptr (5 : Nat) (0 : Nat) (0 : Nat), AVal.ptr (3 : Nat) (0 : Nat) (0 : Nat), AVal.ptr (0 : Nat) (0 : Nat) (0 : Nat), AVal.ptr (2 : Nat) (0 : Nat) (0 : Nat), AVal.ptr (6 : Nat) (0 : Nat) (0 : Nat)]], ver := (0 : Nat) }] mm) else none else none else none else bif true && (true && (true && (true && true))) then bif allBun.sp us && true then bif true && true then bif true && (true && (true && (true && true))) then bif allBun.sp us && true then some (AVal.tup [AVal.own (1 : Nat) (0 : Nat) p h (1 : Nat), AVal.bool true], [{ c := BC.cells [AVal.ro (Cont.rows IntKind.i64 W) W.length (1 : Nat)], ver := (0 : Nat) }, { c := BC.cells us, ver := h }, { c := BC.cells [AVal.own (1 : Nat) (0 : Nat) p h (1 : Nat)], ver := (0 : Nat) }, { c := BC.cells [AVal.int IntKind.i64 s], ver := (0 : Nat) }], mm) else none else none else none else none else none else none) := by kernel_rfl
theorem round2 (W : List (List Int)) (us : List AVal) (l s : Int) (c : List Int) (p h q g i mm f n n2 : Nat) :
  L2 f n (n2 + 1) (mkX 38 [(1, .int .i64 l), (2, .ptr 0 0 0), (6, .ptr 2 0 0), (7, .ptr 3 0 0), (8, .ptr 5 0 0), (9, .ptr 6 0 0), (24, .int .i64 ((W.length : Nat) : Int)), (25, .int .i64 ((i : Nat) : Int))] [⟨.cells [.ro (.rows .i64 W) W.length 1], 0⟩, ⟨.cells us, h⟩, ⟨.cells [.own 1 0 p h 1], 0⟩, ⟨.cells [.int .i64 s], 0⟩, ⟨.typ (.ints .i64 c), g⟩, ⟨.cells [.own 4 0 q g 1], 0⟩, ⟨.cells [.fn 57 [.ptr 5 0 0, .ptr 3 0 0, .ptr 0 0 0, .ptr 2 0 0, .ptr 6 0 0]], 0⟩] mm)
  = (bif decide ((↑i : Int) < (↑W.length : Int)) then bif true && true then bif decide ((0 : Int) ≤ (↑q : Int)) && (true && (true || decide ((0 : Nat) < (0 : Nat)))) then bif (1 : Nat) == (1 : Nat) && (1 : Nat) == (1 : Nat) && (eqN g g && (true && true) && (true && true && (decide ((0 : Nat) + (List.take (1 : Nat) (List.drop (0 : Nat) ((List.replicate (1 : Nat) (0 : Int)).set (0 : Nat) (↑i : Int)))).length ≤ (4611686018427387904 : Nat)) && decide (((0 : Nat) + (List.take (1 : Nat) (List.drop (0 : Nat) ((List.replicate (1 : Nat) (0 : Int)).set (0 : Nat) (↑i : Int)))).length) * (8 : Nat) ≤ (140737488355328 : Nat))))) then bif decide (W.length = W.length ∧ Int.toNat (0 : Int) - (0 : Nat) + (Cont.ints IntKind.i64 (List.take (1 : Nat) (List.drop (0 : Nat) ((List.replicate (1 : Nat) (0 : Int)).set (0 : Nat) (↑i : Int))))).len = (List.take (Int.toNat (0 : Int) - (0 : Nat)) c ++ List.take (1 : Nat) (List.drop (0 : Nat) ((List.replicate (1 : Nat) (0 : Int)).set (0 : Nat) (↑i : Int)))).length ∧ p = us.length ∧ (57 : FuncId) = (57 : FuncId) ∧ (↑(Int.toNat (0 : Int) - (0 : Nat) + (Cont.ints IntKind.i64 (List.take (1 : Nat) (List.drop (0 : Nat) ((List.replicate (1 : Nat) (0 : Int)).set (0 : Nat) (↑i : Int))))).len) : Int) ≤ s ∧ s - (↑(Int.toNat (0 : Int) - (0 : Nat) + (Cont.ints IntKind.i64 (List.take (1 : Nat) (List.drop (0 : Nat) ((List.replicate (1 : Nat) (0 : Int)).set (0 : Nat) (↑i : Int))))).len) : Int) < (↑(10 : Nat) : Int) ∧ p + (8 : Nat) ^ (s.toNat - (Int.toNat (0 : Int) - (0 : Nat) + (Cont.ints IntKind.i64 (List.take (1 : Nat) (List.drop (0 : Nat) ((List.replicate (1 : Nat) (0 : Int)).set (0 : Nat) (↑i : Int))))).len)) ≤ (1000000 : Nat) ∧ g + (1 : Nat) = g + (1 : Nat) ∧ h = h) && (gvs.gv.sp W s && (gvs.rg.sp W.length (List.take (0 : Nat) c ++ List.take (1 : Nat) (List.drop (0 : Nat) ((List.replicate (1 : Nat) (0 : Int)).set (0 : Nat) (↑i : Int)))) && allBun.sp us)) then bif true && (true && (true && (true && (true && (true && (true && true)))))) then bif allBun.sp (us ++ bunsB.sv mm (gvs.gw.sv W (s.toNat - ((0 : Nat) + (List.take (1 : Nat) (List.drop (0 : Nat) ((List.replicate (1 : Nat) (0 : Int)).set (0 : Nat) (↑i : Int)))).length)) (List.take (0 : Nat) c ++ List.take (1 : Nat) (List.drop (0 : Nat) ((List.replicate (1 : Nat) (0 : Int)).set (0 : Nat) (↑i : Int)))))) && true then L2 f n n2 (mkX (38 : Nat) [((1 : Nat), AVal.int IntKind.i64 l), ((2 : Nat), AVal.ptr (0 : Nat) (0 : Nat) (0 : Nat)), ((6 : Nat), AVal.ptr (2 : Nat) (0 : Nat) (0 : Nat)), ((7 : Nat), AVal.ptr (3 : Nat) (0 : Nat) (0 : Nat)), ((8 : Nat), AVal.ptr (5 : Nat) (0 : Nat) (0 : Nat)), ((9 : Nat), AVal.ptr (6 : Nat) (0 : Nat) (0 : Nat)), ((24 : Nat), AVal.int IntKind.i64 (↑W.length : Int)), ((25 : Nat), AVal.int IntKind.i64 (IntKind.i64.wrap ((↑i : Int) + (1 : Int))))] [{ c := BC.cells [AVal.ro (Cont.rows IntKind.i64 W) W.length (1 : Nat)], ver := (0 : Nat) }, { c := BC.cells (us ++ bunsB.sv mm (gvs.gw.sv W (s.toNat - ((0 : Nat) + (List.take (1 : Nat) (List.drop (0 : Nat) ((List.replicate (1 : Nat) (0 : Int)).set (0 : Nat) (↑i : Int)))).length)) (List.take (0 : Nat) c ++ List.take (1 : Nat) (List.drop (0 : Nat) ((List.replicate (1 : Nat) (0 : Int)).set (0 : Nat) (↑i : Int)))))), ver := h + (gvs.gw.sv W (s.toNat - ((0 : Nat) + (List.take (1 : Nat) (List.drop (0 : Nat) ((List.replicate (1 : Nat) (0 : Int)).set (0 : Nat) (↑i : Int)))).length)) (List.take (0 : Nat) c ++ List.take (1 : Nat) (List.drop (0 : Nat) ((List.replicate (1 : Nat) (0 : Int)).set (0 : Nat) (↑i : Int))))).length }, { c := BC.cells [AVal.own (1 : Nat) (0 : Nat) (p + (gvs.gw.sv W (s.toNat - ((0 : Nat) + (List.take (1 : Nat) (List.drop (0 : Nat) ((List.replicate (1 : Nat) (0 : Int)).set (0 : Nat) (↑i : Int)))).length)) (List.take (0 : Nat) c ++ List.take (1 : Nat) (List.drop (0 : Nat) ((List.replicate (1 : Nat) (0 : Int)).set (0 : Nat) (↑i : Int))))).length) (h + (gvs.gw.sv W (s.toNat - ((0 : Nat) + (List.take (1 : Nat) (List.drop (0 : Nat) ((List.replicate (1 : Nat) (0 : Int)).set (0 : Nat) (↑i : Int)))).length)) (List.take (0 : Nat) c ++ List.take (1 : Nat) (List.drop (0 : Nat) ((List.replicate (1 : Nat) (0 : Int)).set (0 : Nat) (↑i : Int))))).length) (1 : Nat)], ver := (0 : Nat) }, { c := BC.cells [AVal.int IntKind.i64 s], ver := (0 : Nat) }, { c := BC.typ (Cont.ints IntKind.i64 (gvs.en.sv W (s.toNat - ((0 : Nat) + (List.take (1 : Nat) (List.drop (0 : Nat) ((List.replicate (1 : Nat) (0 : Int)).set (0 : Nat) (↑i : Int)))).length)) (List.take (0 : Nat) c ++ List.take (1 : Nat) (List.drop (0 : Nat) ((List.replicate (1 : Nat) (0 : Int)).set (0 : Nat) (↑i : Int)))))), ver := gvs.vn.sv W (s.toNat - ((0 : Nat) + (List.take (1 : Nat) (List.drop (0 : Nat) ((List.replicate (1 : Nat) (0 : Int)).set (0 : Nat) (↑i : Int)))).length)) (List.take (0 : Nat) c ++ List.take (1 : Nat) (List.drop (0 : Nat) ((List.replicate (1 : Nat) (0 : Int)).set (0 : Nat) (↑i : Int)))) (g + (1 : Nat)) }, { c := BC.cells [AVal.own (4 : Nat) (0 : Nat) ((0 : Nat) + (List.take (1 : Nat) (List.drop (0 : Nat) ((List.replicate (1 : Nat) (0 : Int)).set (0 : Nat) (↑i : Int)))).length) (gvs.vn.sv W (s.toNat - ((0 : Nat) + (List.take (1 : Nat) (List.drop (0 : Nat) ((List.replicate (1 : Nat) (0 : Int)).set (0 : Nat) (↑i : Int)))).length)) (List.take (0 : Nat) c ++ List.take (1 : Nat) (List.drop (0 : Nat) ((List.replicate (1 : Nat) (0 : Int)).set (0 : Nat) (↑i : Int)))) (g + (1 : Nat))) (1 : Nat)], ver := (0 : Nat) }, { c := BC.cells [AVal.fn (57 : Nat) [AVal.ptr (5 : Nat) (0 : Nat) (0 : Nat), AVal.ptr (3 : Nat) (0 : Nat) (0 : Nat), AVal.ptr (0 : Nat) (0 : Nat) (0 : Nat), AVal.ptr (2 : Nat) (0 : Nat) (0 : Nat), AVal.ptr (6 : Nat) (0 : Nat) (0 : Nat)]], ver := (0 : Nat) }] (mm + (gvs.gw.sv W (s.toNat - ((0 : Nat) + (List.take (1 : Nat) (List.drop (0 : Nat) ((List.replicate (1 : Nat) (0 : Int)).set (0 : Nat) (↑i : Int)))).length)) (List.take (0 : Nat) c ++ List.take (1 : Nat) (List.drop (0 : Nat) ((List.replicate (1 : Nat) (0 : Int)).set (0 : Nat) (↑i : Int))))).length)) else none else none else none else none else none else none else bif true && (true && (true && (true && (true && (true && (true && true)))))) then bif allBun.sp us && true then bif true && true then bif true && true then bif true && (true && (true && (true && true))) then bif true && (true && (true && (true && true))) then bif allBun.sp us && true then L0 f n (mkX (38 : Nat) [((1 : Nat), AVal.int IntKind.i64 l), ((2 : Nat), AVal.ptr (0 : Nat) (0 : Nat) (0 : Nat)), ((6 : Nat), AVal.ptr (2 : Nat) (0 : Nat) (0 : Nat)), ((7 : Nat), AVal.ptr (3 : Nat) (0 : Nat) (0 : Nat))] [{ c := BC.cells [AVal.ro (Cont.rows IntKind.i64 W) W.length (1 : Nat)], ver := (0 : Nat) }, { c := BC.cells us, ver := h }, { c := BC.cells [AVal.own (1 : Nat) (0 : Nat) p h (1 : Nat)], ver := (0 : Nat) }, { c := BC.cells [AVal.int IntKind.i64 (IntKind.i64.wrap (s + (1 : Int)))], ver := (0 : Nat) }] mm) else none else none else none else none else none else none else none) := by kernel_rfl
theorem Cok : YCok Try.prog C := ⟨by simp [C], by simp [C], by simp only [C, List.mem_cons, List.not_mem_nil, or_false, forall_eq]; exact gputY.ok 10⟩
theorem loop2 (W : List (List Int)) (M s f n : Nat) (hv : gvs.gv.sp W ((M : Nat) : Int) = true) (h2 : 2 ≤ s) (hs : s ≤ M) : ∀ (d i n2 q g : Nat) (c : List Int) (o Z : List (List Int)), i + d = W.length → d < n2 → o.length ≤ s * 8192 + i * 512 → o ++ gvs.cat (fun i => gvs.gw.sv W (s - 1) [((i : Nat) : Int)]) d i = Z →
    L2 f n n2 (mkX 38 [(1, .int .i64 ((M : Nat) : Int)), (2, .ptr 0 0 0), (6, .ptr 2 0 0), (7, .ptr 3 0 0), (8, .ptr 5 0 0), (9, .ptr 6 0 0), (24, .int .i64 ((W.length : Nat) : Int)), (25, .int .i64 ((i : Nat) : Int))] [⟨.cells [.ro (.rows .i64 W) W.length 1], 0⟩, ⟨.cells (bunsB.sv 0 o), o.length⟩, ⟨.cells [.own 1 0 o.length o.length 1], 0⟩, ⟨.cells [.int .i64 ((s : Nat) : Int)], 0⟩, ⟨.typ (.ints .i64 c), g⟩, ⟨.cells [.own 4 0 q g 1], 0⟩, ⟨.cells [.fn 57 [.ptr 5 0 0, .ptr 3 0 0, .ptr 0 0 0, .ptr 2 0 0, .ptr 6 0 0]], 0⟩] o.length) = L0 f n (mkX 38 [(1, .int .i64 ((M : Nat) : Int)), (2, .ptr 0 0 0), (6, .ptr 2 0 0), (7, .ptr 3 0 0)] [⟨.cells [.ro (.rows .i64 W) W.length 1], 0⟩, ⟨.cells (bunsB.sv 0 Z), Z.length⟩, ⟨.cells [.own 1 0 Z.length Z.length 1], 0⟩, ⟨.cells [.int .i64 (((s + 1) : Nat) : Int)], 0⟩] Z.length) := by
  obtain ⟨g0, hM2, hM4⟩ := gvs.valid hv
  have h8 := g0.h8
  have hvs := gvs.gv_sub hv (s := ((s : Nat) : Int)) (by omega) (by omega)
  intro d
  induction d with
  | zero =>
    intro i n2 q g c o Z hk hn ho hZ
    obtain ⟨n2, rfl⟩ : ∃ q, n2 = q + 1 := ⟨n2 - 1, by omega⟩
    obtain rfl : i = W.length := by omega
    rw [gvs.cat, List.append_nil] at hZ
    subst hZ
    rw [round2]
    simp -implicitDefEqProofs (disch := omega) only [eqN_eq, beq_self_eq_true, hlen_eq, app_eq, allBun_app, allBun_bunsB, take_one, set_one, decide_eq_true, decide_eq_false, IntWalk.i64_in, beqT, beqF, bneT, bneF, nat_succ, ← Int.natCast_mul, ← Int.natCast_add, Int.toNat_natCast, Int.zero_mul, Int.zero_add, Int.add_zero, Nat.zero_add, Nat.add_zero, Nat.zero_mul, List.length_singleton, List.length_append, List.length_nil, List.length_cons, List.take_length, List.drop_zero, List.replicate_zero, List.take_nil, List.nil_append, Nat.reduceBEq, Nat.reduceMul, Nat.reduceLeDiff, eq_self, and_self, true_and, and_true, decide_true, decide_false, Bool.and_self, Bool.or_self, Bool.and_true, Bool.true_and, Bool.and_false, Bool.false_and, Bool.or_true, Bool.true_or, Bool.or_false, Bool.false_or, Bool.not_true, Bool.not_false, cond_true, cond_false]
  | succ d ih =>
    intro i n2 q g c o Z hk hn ho hZ
    obtain ⟨n2, rfl⟩ : ∃ q, n2 = q + 1 := ⟨n2 - 1, by omega⟩
    rw [gvs.cat, ← List.append_assoc] at hZ
    have hq := gvs.Rg.one (n := W.length) (i := i) (by omega)
    have hq2 := gvs.rg_iff.2 hq
    have hb := gvs.gw_le g0 (s - 1) _ hq
    have hb2 : 8 ^ (s - 1) ≤ 512 := Nat.pow_le_pow_right (n := 8) (by omega) (show s - 1 ≤ 3 by omega)
    have g2 := ih (i + 1) n2 1 (gvs.vn.sv W (s - 1) [((i : Nat) : Int)] (g + 1)) (gvs.en.sv W (s - 1) [((i : Nat) : Int)]) (o ++ gvs.gw.sv W (s - 1) [((i : Nat) : Int)]) Z (by omega) (by omega) (by rw [List.length_append]; omega) hZ
    have z0 : Int.toNat 0 = 0 := rfl
    have t0 : c.take 0 = [] := rfl
    have hol := bunsB_len 0 o
    rw [List.length_append, bunsB_app, Nat.zero_add] at g2
    rw [round2, z0]
    simp -implicitDefEqProofs (disch := omega) only [eqN_eq, beq_self_eq_true, hlen_eq, app_eq, allBun_app, allBun_bunsB, hol, hvs, hq2, t0, Cont.len, Nat.sub_zero, take_one, set_one, decide_eq_true, decide_eq_false, IntWalk.i64_in, beqT, beqF, bneT, bneF, nat_succ, ← Int.natCast_mul, ← Int.natCast_add, Int.toNat_natCast, Int.zero_mul, Int.zero_add, Int.add_zero, Nat.zero_add, Nat.add_zero, Nat.zero_mul, List.length_singleton, List.length_append, List.length_nil, List.length_cons, List.take_length, List.drop_zero, List.replicate_zero, List.take_nil, List.nil_append, Nat.reduceBEq, Nat.reduceMul, Nat.reduceLeDiff, eq_self, and_self, true_and, and_true, decide_true, decide_false, Bool.and_self, Bool.or_self, Bool.and_true, Bool.true_and, Bool.and_false, Bool.false_and, Bool.or_true, Bool.true_or, Bool.or_false, Bool.false_or, Bool.not_true, Bool.not_false, cond_true, cond_false]
    exact g2
theorem loop0 (W : List (List Int)) (M f : Nat) (hf : 10 < f) (hv : gvs.gv.sp W ((M : Nat) : Int) = true) : ∀ (d s n : Nat) (o Z : List (List Int)), s + d = M + 1 → d < n → 2 ≤ s → o.length ≤ s * 8192 → o ++ gvs.cat (fun s => gvs.r1.sv W s) d s = Z →
    L0 f n (mkX 38 [(1, .int .i64 ((M : Nat) : Int)), (2, .ptr 0 0 0), (6, .ptr 2 0 0), (7, .ptr 3 0 0)] [⟨.cells [.ro (.rows .i64 W) W.length 1], 0⟩, ⟨.cells (bunsB.sv 0 o), o.length⟩, ⟨.cells [.own 1 0 o.length o.length 1], 0⟩, ⟨.cells [.int .i64 ((s : Nat) : Int)], 0⟩] o.length) = some (.tup [.own 1 0 Z.length Z.length 1, .bool true], [⟨.cells [.ro (.rows .i64 W) W.length 1], 0⟩, ⟨.cells (bunsB.sv 0 Z), Z.length⟩, ⟨.cells [.own 1 0 Z.length Z.length 1], 0⟩, ⟨.cells [.int .i64 (((M + 1) : Nat) : Int)], 0⟩], Z.length) := by
  obtain ⟨g0, hM2, hM4⟩ := gvs.valid hv
  have h8 := g0.h8
  intro d
  induction d with
  | zero =>
    intro s n o Z hk hn h2 ho hZ
    obtain ⟨n, rfl⟩ : ∃ q, n = q + 1 := ⟨n - 1, by omega⟩
    rw [gvs.cat, List.append_nil] at hZ
    subst hZ
    obtain rfl : s = M + 1 := by omega
    rw [round0]
    simp -implicitDefEqProofs (disch := omega) only [eqN_eq, beq_self_eq_true, hlen_eq, app_eq, allBun_app, allBun_bunsB, take_one, set_one, decide_eq_true, decide_eq_false, IntWalk.i64_in, beqT, beqF, bneT, bneF, nat_succ, ← Int.natCast_mul, ← Int.natCast_add, Int.toNat_natCast, Int.zero_mul, Int.zero_add, Int.add_zero, Nat.zero_add, Nat.add_zero, Nat.zero_mul, List.length_singleton, List.length_append, List.length_nil, List.length_cons, List.take_length, List.drop_zero, List.replicate_zero, List.take_nil, List.nil_append, Nat.reduceBEq, Nat.reduceMul, Nat.reduceLeDiff, eq_self, and_self, true_and, and_true, decide_true, decide_false, Bool.and_self, Bool.or_self, Bool.and_true, Bool.true_and, Bool.and_false, Bool.false_and, Bool.or_true, Bool.true_or, Bool.or_false, Bool.false_or, Bool.not_true, Bool.not_false, cond_true, cond_false]
  | succ d ih =>
    intro s n o Z hk hn h2 ho hZ
    obtain ⟨n, rfl⟩ : ∃ q, n = q + 1 := ⟨n - 1, by omega⟩
    rw [gvs.cat, ← List.append_assoc] at hZ
    have hb : (gvs.r1.sv W s).length ≤ 8 * 512 := by
      unfold gvs.r1.sv
      have key : ∀ d k, k + d = W.length → (gvs.cat (fun i => gvs.gw.sv W (s - 1) [((i : Nat) : Int)]) d k).length ≤ d * 512 := by
        intro d
        induction d with
        | zero => intro k _; simp [gvs.cat]
        | succ d ih2 =>
          intro k hk
          have a := ih2 (k + 1) (by omega)
          have b := gvs.gw_le g0 (s - 1) _ (gvs.Rg.one (n := W.length) (i := k) (by omega))
          have c : 8 ^ (s - 1) ≤ 512 := Nat.pow_le_pow_right (n := 8) (by omega) (show s - 1 ≤ 3 by omega)
          rw [gvs.cat, List.length_append]
          omega
      have := key W.length 0 (by omega)
      omega
    have g1 := ih (s + 1) n (o ++ gvs.r1.sv W s) Z (by omega) (by omega) (by omega) (by rw [List.length_append]; omega) hZ
    have g2 := loop2 W M s f n hv h2 (by omega) W.length 0 f 0 0 [] o (o ++ gvs.r1.sv W s) (by omega) (by omega) (by omega) rfl
    rw [round0]
    simp -implicitDefEqProofs (disch := omega) only [eqN_eq, beq_self_eq_true, hlen_eq, app_eq, allBun_app, allBun_bunsB, take_one, set_one, decide_eq_true, decide_eq_false, IntWalk.i64_in, beqT, beqF, bneT, bneF, nat_succ, ← Int.natCast_mul, ← Int.natCast_add, Int.toNat_natCast, Int.zero_mul, Int.zero_add, Int.add_zero, Nat.zero_add, Nat.add_zero, Nat.zero_mul, List.length_singleton, List.length_append, List.length_nil, List.length_cons, List.take_length, List.drop_zero, List.replicate_zero, List.take_nil, List.nil_append, Nat.reduceBEq, Nat.reduceMul, Nat.reduceLeDiff, eq_self, and_self, true_and, and_true, decide_true, decide_false, Bool.and_self, Bool.or_self, Bool.and_true, Bool.true_and, Bool.and_false, Bool.false_and, Bool.or_true, Bool.true_or, Bool.or_false, Bool.false_or, Bool.not_true, Bool.not_false, cond_true, cond_false]
    exact g2.trans g1
theorem run (W : List (List Int)) (M : Nat) (hv : gvs.gv.sp W ((M : Nat) : Int) = true) : ∃ fuel, runFnY Try.prog (orcV [⟨56, areGives.R⟩]) C hd Dr.std en cut fuel (bodyOf Try.f40) 38 [4, 5] [.ro (.rows .i64 W) W.length 1, .int .i64 ((M : Nat) : Int)] [] 0 = some (.tup [.own 1 0 (gvs.rs.sv W M).length (gvs.rs.sv W M).length 1, .bool true], [⟨.cells [.ro (.rows .i64 W) W.length 1], 0⟩, ⟨.cells (bunsB.sv 0 (gvs.rs.sv W M)), (gvs.rs.sv W M).length⟩, ⟨.cells [.own 1 0 (gvs.rs.sv W M).length (gvs.rs.sv W M).length 1], 0⟩, ⟨.cells [.int .i64 (((M + 1) : Nat) : Int)], 0⟩], (gvs.rs.sv W M).length) := by
  obtain ⟨g, hM2, hM4⟩ := gvs.valid hv
  have h8 := g.h8
  have hs : short.sp 4611686018427387903 W = true := by
    simp only [short.sp, List.all_eq_true, decide_eq_true_eq]
    intro r hr
    obtain ⟨k, hk, rfl⟩ := List.mem_iff_getElem.1 hr
    have := g.rl k hk
    rw [gr_eq hk] at this
    omega
  obtain ⟨F, hF⟩ : ∃ F : Nat, F = 100 := ⟨100, rfl⟩
  refine ⟨F, ?_⟩
  have g2 := loop0 W M F (by omega) hv (M - 1) 2 F [] (gvs.rs.sv W M) (by omega) (by omega) (by omega) (by simp) (by rw [List.nil_append]; rfl)
  have an : allBun.sp [] = true := rfl
  rw [start]
  simp -implicitDefEqProofs (disch := omega) only [eqN_eq, beq_self_eq_true, hlen_eq, app_eq, allBun_app, allBun_bunsB, hv, hs, an, take_one, set_one, decide_eq_true, decide_eq_false, IntWalk.i64_in, beqT, beqF, bneT, bneF, nat_succ, ← Int.natCast_mul, ← Int.natCast_add, Int.toNat_natCast, Int.zero_mul, Int.zero_add, Int.add_zero, Nat.zero_add, Nat.add_zero, Nat.zero_mul, List.length_singleton, List.length_append, List.length_nil, List.length_cons, List.take_length, List.drop_zero, List.replicate_zero, List.take_nil, List.nil_append, Nat.reduceBEq, Nat.reduceMul, Nat.reduceLeDiff, eq_self, and_self, true_and, and_true, decide_true, decide_false, Bool.and_self, Bool.or_self, Bool.and_true, Bool.true_and, Bool.and_false, Bool.false_and, Bool.or_true, Bool.true_or, Bool.or_false, Bool.false_or, Bool.not_true, Bool.not_false, cond_true, cond_false]
  exact g2
theorem inT (args : List AVal) (F1 : Forb) (ρ1 : List Nat) (H1 : Heap) (w : World) (v : AVal) (c : Value) (h : @VR F1 ρ1 H1 w (.tup [v, .bool true]) c) : ∃ x, @VR F1 ρ1 H1 w v x ∧ ∀ (F2 : Forb) (u : AVal), @VR F2 [] [] w u x → @VR F2 [] [] w (.tup [u, .bool true]) c := by
  obtain ⟨a, b, rfl, h1, h2⟩ := tup2_inv h
  cases h2
  exact ⟨a, h1, fun F2 u hu => tup2_mk hu (@VR.bool F2 [] [] w true)⟩
theorem ok : KOk Try.prog ⟨40, R⟩ := by
  refine kY_ok mixed (A := (orcV [⟨56, areGives.R⟩])) (orcV_ok (by simp only [List.mem_cons, List.not_mem_nil, or_false, forall_eq_or_imp, forall_eq]; exact areGives.ok)) (fun _ => C) (fun _ => Cok) Try.func40 (by kernel_rfl) (by kernel_rfl) (n := 38) (ts := [4, 5]) (hd := hd) (dr := Dr.std) (en := en) (cut := cut) (by kernel_rfl) (by kernel_rfl) (by kernel_rfl) (fun _ v => .tup [v, .bool true]) inT fun args u k h => ?_
  unfold R at h
  split at h
  · rename_i W m l
    simp only [Option.some.injEq, Prod.mk.injEq, Bool.and_eq_true, decide_eq_true_eq] at h
    obtain ⟨⟨rfl, hv⟩, rfl, rfl⟩ := h
    obtain ⟨g, hM2, hM4⟩ := gvs.valid hv
    obtain ⟨M, rfl⟩ : ∃ x : Nat, l = x := ⟨l.toNat, by omega⟩
    obtain ⟨F, hr⟩ := run W M hv
    rw [Int.toNat_natCast]
    exact ⟨gvs.rs.sv W M, F, _, _, 1, _, _, bunsB.sv 0 (gvs.rs.sv W M), fun j => j, rfl, rfl, rfl, fun i j _ _ h => h, fun j r hj => by
      have := bunsB_get (gvs.rs.sv W M) 0 j r hj
      rwa [Nat.zero_add] at this, rfl, hr⟩
  · cases h
end kGiveRings


-- numbers
namespace gvs
theorem mb_nodup (m : Nat) : ∀ n, (mb.sv m n).Nodup
  | 0 => List.nodup_nil
  | n + 1 => by
    rw [mb.sv]
    cases off.sp m n
    · rw [cond_false]
      refine List.nodup_append.2 ⟨mb_nodup m n, by simp, fun x hx y hy he => ?_⟩
      obtain ⟨i, h1, h2, _⟩ := mb_mem n x hx
      simp only [List.mem_singleton] at hy
      omega
    · rw [cond_true]; exact mb_nodup m n
/-- Lists that are held, taken out of others. -/
def pkB.sv (Q : List (List Int)) (l : List Int) : Nat → List AVal
  | 0 => []
  | k + 1 => pkB.sv Q l k ++ [.bun (gz l k).toNat (.ints .i64 (gr Q (gz l k).toNat)) (gr Q (gz l k).toNat).length]
theorem pkB_len (Q : List (List Int)) (l : List Int) : ∀ k, (pkB.sv Q l k).length = k
  | 0 => rfl
  | k + 1 => by rw [pkB.sv, List.length_append, pkB_len Q l k]; rfl
theorem allBun_pkB (Q : List (List Int)) (l : List Int) : ∀ k, allBun.sp (pkB.sv Q l k) = true
  | 0 => rfl
  | k + 1 => by rw [pkB.sv, allBun_app, allBun_pkB Q l k]; rfl
theorem pkB_at (Q : List (List Int)) (l : List Int) : ∀ (k j : Nat), j < k → (pkB.sv Q l k)[j]? = some (.bun (gz l j).toNat (.ints .i64 (gr Q (gz l j).toNat)) (gr Q (gz l j).toNat).length) ∧ (pk.sv Q l k)[j]? = some (gr Q (gz l j).toNat)
  | 0, j, h => by omega
  | k + 1, j, h => by
    rw [pkB.sv, pk.sv]
    by_cases c : j < k
    · obtain ⟨h1, h2⟩ := pkB_at Q l k j c
      rw [List.getElem?_append_left (by rw [pkB_len]; exact c), List.getElem?_append_left (by rw [pk_length]; exact c)]
      exact ⟨h1, h2⟩
    · obtain rfl : j = k := by omega
      rw [List.getElem?_append_right (by rw [pkB_len]; omega), List.getElem?_append_right (by rw [pk_length]; omega), pkB_len, pk_length, Nat.sub_self]
      exact ⟨rfl, rfl⟩
end gvs
theorem rowB_gr (Q : List (List Int)) (i : Nat) : rowB.sv Q i = gr Q i := rfl
namespace kMostGiven
def C (Q : List (List Int)) : YC := ⟨[], [⟨40, kGiveRings.R⟩], [], [51, 71], [34], [(0, 0, Q)]⟩
def hd : Nat → HeadY := fun i => bif eqN i 0 then ⟨[7, 9, 10, 37, 38], 1, [], [0]⟩ else bif eqN i 2 then ⟨[7, 9, 10, 11, 12, 13, 14, 37, 38, 42, 43, 44], 1, [], [0]⟩ else bif eqN i 4 then ⟨[7, 9, 10, 11, 12, 13, 14, 16, 37, 38, 42, 43, 44, 51, 52, 53], 1, [], [0]⟩ else ⟨[7, 10, 19, 86, 87, 88], 2, [], [0, 1]⟩
def en : Nat → List (List Nat) := fun _ => []
def cut : HeadY := ⟨[], 2, [], [0, 1]⟩
noncomputable def L0 (Q : List (List Int)) (f n : Nat) (x : SX) := loopY Try.prog (orcF [⟨41, layF members.R⟩] (orcV [])) (C Q) hd Dr.std en 0 f (bodyOf Try.f18) 0 [true, true, true, true, false, true] (retY Try.prog [4, 5, 6] 0 cut) n x
noncomputable def L2 (Q : List (List Int)) (f n n2 : Nat) (x : SX) := loopY Try.prog (orcF [⟨41, layF members.R⟩] (orcV [])) (C Q) hd Dr.std en 0 f (bodyAt (bodyOf Try.f18) [true, true, true, true, false, true]) 0 [true, true, false, true, true, false, true] (iterY (normC 0 (hd 0)) (L0 Q f n) (contY Try.prog (orcF [⟨41, layF members.R⟩] (orcV [])) (C Q) hd Dr.std en 0 f (bodyOf Try.f18) 0 [true, true, true, true, false, true] (retY Try.prog [4, 5, 6] 0 cut))) n2 x
noncomputable def L4 (Q : List (List Int)) (f n n2 n4 : Nat) (x : SX) := loopY Try.prog (orcF [⟨41, layF members.R⟩] (orcV [])) (C Q) hd Dr.std en 0 f (bodyAt (bodyAt (bodyOf Try.f18) [true, true, true, true, false, true]) [true, true, false, true, true, false, true]) 2 [true, true, false, true, false, true] (iterY (normC 0 (hd 2)) (L2 Q f n n2) (contY Try.prog (orcF [⟨41, layF members.R⟩] (orcV [])) (C Q) hd Dr.std en 0 f (bodyAt (bodyOf Try.f18) [true, true, true, true, false, true]) 0 [true, true, false, true, true, false, true] (iterY (normC 0 (hd 0)) (L0 Q f n) (contY Try.prog (orcF [⟨41, layF members.R⟩] (orcV [])) (C Q) hd Dr.std en 0 f (bodyOf Try.f18) 0 [true, true, true, true, false, true] (retY Try.prog [4, 5, 6] 0 cut))))) n4 x
noncomputable def L6 (Q : List (List Int)) (f n : Nat) (x : SX) := loopY Try.prog (orcF [⟨41, layF members.R⟩] (orcV [])) (C Q) hd Dr.std en 0 f (bodyOf Try.f18) 0 [true, true, true, true, true, true, false, true] (retY Try.prog [4, 5, 6] 0 cut) n x
theorem start (W : List (List Int)) (l : Int) (f : Nat) :
  runFnY Try.prog (orcF [⟨41, layF members.R⟩] (orcV [])) (C (gvs.rs.sv W l.toNat)) hd Dr.std en cut f (bodyOf Try.f18) 102 [4, 5, 6] [.ro (.rows .i64 W) W.length 1, .int .i64 l] [] 0
  = (bif true && (true && true) && (decide (W.length = W.length) && gvs.gv.sp W l) && decide ((gvs.rs.sv W l.toNat).length = (gvs.rs.sv W l.toNat).length) then bif decide ((16 : Int) < (↑(gvs.rs.sv W l.toNat).length : Int)) then none else bif decide ((0 : Int) ≤ (↑(gvs.rs.sv W l.toNat).length : Int)) then bif allBun.sp (bunsB.sv (0 : Nat) (gvs.rs.sv W l.toNat)) && true then L0 (gvs.rs.sv W l.toNat) f f (mkX (102 : Nat) [((7 : Nat), AVal.own (0 : Nat) (0 : Nat) (gvs.rs.sv W l.toNat).length (0 : Nat) (1 : Nat)), ((9 : Nat), AVal.int IntKind.i64 (0 : Int)), ((10 : Nat), AVal.int IntKind.i64 (0 : Int)), ((37 : Nat), AVal.int IntKind.i64 (ishl.sv IntKind.i64 (1 : Int) (↑(gvs.rs.sv W l.toNat).length : Int))), ((38 : Nat), AVal.int IntKind.i64 (0 : Int))] [{ c := BC.cells (bunsB.sv (0 : Nat) (gvs.rs.sv W l.toNat)), ver := (0 : Nat) }] ((0 : Nat) + (gvs.rs.sv W l.toNat).length)) else none else none else none) := by kernel_rfl
theorem round0 (Q : List (List Int)) (b c z m : Int) (f n : Nat) :
  L0 Q f (n + 1) (mkX 102 [(7, .own 0 0 Q.length 0 1), (9, .int .i64 b), (10, .int .i64 c), (37, .int .i64 z), (38, .int .i64 m)] [⟨.cells (bunsB.sv 0 Q), 0⟩] Q.length)
  = (bif decide (m < z) then bif decide ((0 : Int) ≤ m ∧ m < (65536 : Int)) && (true && (true && true)) then bif allBun.sp (bunsB.sv (0 : Nat) Q) && true then L2 Q f n f (mkX (102 : Nat) [((7 : Nat), AVal.own (0 : Nat) (0 : Nat) Q.length (0 : Nat) (1 : Nat)), ((9 : Nat), AVal.int IntKind.i64 b), ((10 : Nat), AVal.int IntKind.i64 c), ((11 : Nat), AVal.int IntKind.i64 m), ((12 : Nat), AVal.int IntKind.i64 (0 : Int)), ((13 : Nat), AVal.int IntKind.i64 (0 : Int)), ((14 : Nat), AVal.bool true), ((37 : Nat), AVal.int IntKind.i64 z), ((38 : Nat), AVal.int IntKind.i64 m), ((42 : Nat), AVal.ro (Cont.ints IntKind.i64 (gvs.mb.sv m.toNat (gvs.ln.sv m.toNat))) (gvs.mb.sv m.toNat (gvs.ln.sv m.toNat)).length (1 : Nat)), ((43 : Nat), AVal.int IntKind.i64 (↑(gvs.mb.sv m.toNat (gvs.ln.sv m.toNat)).length : Int)), ((44 : Nat), AVal.int IntKind.i64 (0 : Int))] [{ c := BC.cells (bunsB.sv (0 : Nat) Q), ver := (0 : Nat) }] Q.length) else none else none else bif allBun.sp (bunsB.sv (0 : Nat) Q) && true then bif decide ((0 : Int) ≤ b ∧ b < (65536 : Int)) && (true && (true && true)) then bif allBun.sp (bunsB.sv (0 : Nat) Q) && (allBun.sp [] && true) then L6 Q f f (mkX (102 : Nat) [((7 : Nat), AVal.own (0 : Nat) (0 : Nat) Q.length (0 : Nat) (1 : Nat)), ((10 : Nat), AVal.int IntKind.i64 c), ((19 : Nat), AVal.own (1 : Nat) (0 : Nat) (0 : Nat) (0 : Nat) (1 : Nat)), ((86 : Nat), AVal.ro (Cont.ints IntKind.i64 (gvs.mb.sv b.toNat (gvs.ln.sv b.toNat))) (gvs.mb.sv b.toNat (gvs.ln.sv b.toNat)).length (1 : Nat)), ((87 : Nat), AVal.int IntKind.i64 (↑(gvs.mb.sv b.toNat (gvs.ln.sv b.toNat)).length : Int)), ((88 : Nat), AVal.int IntKind.i64 (0 : Int))] [{ c := BC.cells (bunsB.sv (0 : Nat) Q), ver := (0 : Nat) }, { c := BC.cells [], ver := (0 : Nat) }] Q.length) else none else none else none) := by kernel_rfl
theorem round2 (Q : List (List Int)) (b c z m : Int) (l : List Int) (u n : Int) (ok : Bool) (k f n0 n2 : Nat) :
  L2 Q f n0 (n2 + 1) (mkX 102 [(7, .own 0 0 Q.length 0 1), (9, .int .i64 b), (10, .int .i64 c), (11, .int .i64 m), (12, .int .i64 u), (13, .int .i64 n), (14, .bool ok), (37, .int .i64 z), (38, .int .i64 m), (42, .ro (.ints .i64 l) l.length 1), (43, .int .i64 ((l.length : Nat) : Int)), (44, .int .i64 ((k : Nat) : Int))] [⟨.cells (bunsB.sv 0 Q), 0⟩] Q.length)
  = (bif decide ((↑k : Int) < (↑l.length : Int)) then bif true && (decide ((0 : Int) ≤ (↑k : Int)) && decide ((↑k : Int) < (↑l.length : Int))) then bif decide ((↑k : Int).toNat < l.length) then bif true && (decide ((0 : Int) ≤ gz l (↑k : Int).toNat) && decide (gz l (↑k : Int).toNat < (↑Q.length : Int))) then bif true && (eqC.sp (bunsB.sv (0 : Nat) Q) (bunsB.sv (0 : Nat) Q) && decide ((gz l (↑k : Int).toNat).toNat < Q.length)) then bif allBun.sp (bunsB.sv (0 : Nat) Q) && true then L4 Q f n0 n2 f (mkX (102 : Nat) [((7 : Nat), AVal.own (0 : Nat) (0 : Nat) Q.length (0 : Nat) (1 : Nat)), ((9 : Nat), AVal.int IntKind.i64 b), ((10 : Nat), AVal.int IntKind.i64 c), ((11 : Nat), AVal.int IntKind.i64 m), ((12 : Nat), AVal.int IntKind.i64 u), ((13 : Nat), AVal.int IntKind.i64 n), ((14 : Nat), AVal.bool ok), ((16 : Nat), AVal.int IntKind.i64 (gz l (↑k : Int).toNat)), ((37 : Nat), AVal.int IntKind.i64 z), ((38 : Nat), AVal.int IntKind.i64 m), ((42 : Nat), AVal.ro (Cont.ints IntKind.i64 l) l.length (1 : Nat)), ((43 : Nat), AVal.int IntKind.i64 (↑l.length : Int)), ((44 : Nat), AVal.int IntKind.i64 (↑k : Int)), ((51 : Nat), AVal.ro (Cont.ints IntKind.i64 (rowB.sv Q (gz l (↑k : Int).toNat).toNat)) (rowB.sv Q (gz l (↑k : Int).toNat).toNat).length (1 : Nat)), ((52 : Nat), AVal.int IntKind.i64 (↑(rowB.sv Q (gz l (↑k : Int).toNat).toNat).length : Int)), ((53 : Nat), AVal.int IntKind.i64 (0 : Int))] [{ c := BC.cells (bunsB.sv (0 : Nat) Q), ver := (0 : Nat) }] Q.length) else none else none else none else none else none else bif allBun.sp (bunsB.sv (0 : Nat) Q) && true then bif ok then bif decide (c < n) then bif allBun.sp (bunsB.sv (0 : Nat) Q) && true then L0 Q f n0 (mkX (102 : Nat) [((7 : Nat), AVal.own (0 : Nat) (0 : Nat) Q.length (0 : Nat) (1 : Nat)), ((9 : Nat), AVal.int IntKind.i64 m), ((10 : Nat), AVal.int IntKind.i64 n), ((37 : Nat), AVal.int IntKind.i64 z), ((38 : Nat), AVal.int IntKind.i64 (IntKind.i64.wrap (m + (1 : Int))))] [{ c := BC.cells (bunsB.sv (0 : Nat) Q), ver := (0 : Nat) }] Q.length) else none else bif allBun.sp (bunsB.sv (0 : Nat) Q) && true then L0 Q f n0 (mkX (102 : Nat) [((7 : Nat), AVal.own (0 : Nat) (0 : Nat) Q.length (0 : Nat) (1 : Nat)), ((9 : Nat), AVal.int IntKind.i64 b), ((10 : Nat), AVal.int IntKind.i64 c), ((37 : Nat), AVal.int IntKind.i64 z), ((38 : Nat), AVal.int IntKind.i64 (IntKind.i64.wrap (m + (1 : Int))))] [{ c := BC.cells (bunsB.sv (0 : Nat) Q), ver := (0 : Nat) }] Q.length) else none else bif allBun.sp (bunsB.sv (0 : Nat) Q) && true then L0 Q f n0 (mkX (102 : Nat) [((7 : Nat), AVal.own (0 : Nat) (0 : Nat) Q.length (0 : Nat) (1 : Nat)), ((9 : Nat), AVal.int IntKind.i64 b), ((10 : Nat), AVal.int IntKind.i64 c), ((37 : Nat), AVal.int IntKind.i64 z), ((38 : Nat), AVal.int IntKind.i64 (IntKind.i64.wrap (m + (1 : Int))))] [{ c := BC.cells (bunsB.sv (0 : Nat) Q), ver := (0 : Nat) }] Q.length) else none else none) := by kernel_rfl
theorem round4 (Q : List (List Int)) (b c z m : Int) (l r : List Int) (u n i : Int) (ok : Bool) (k j f n0 n2 n4 : Nat) :
  L4 Q f n0 n2 (n4 + 1) (mkX 102 [(7, .own 0 0 Q.length 0 1), (9, .int .i64 b), (10, .int .i64 c), (11, .int .i64 m), (12, .int .i64 u), (13, .int .i64 n), (14, .bool ok), (16, .int .i64 i), (37, .int .i64 z), (38, .int .i64 m), (42, .ro (.ints .i64 l) l.length 1), (43, .int .i64 ((l.length : Nat) : Int)), (44, .int .i64 ((k : Nat) : Int)), (51, .ro (.ints .i64 r) r.length 1), (52, .int .i64 ((r.length : Nat) : Int)), (53, .int .i64 ((j : Nat) : Int))] [⟨.cells (bunsB.sv 0 Q), 0⟩] Q.length)
  = (bif decide ((↑j : Int) < (↑r.length : Int)) then bif true && (decide ((0 : Int) ≤ (↑j : Int)) && decide ((↑j : Int) < (↑r.length : Int))) then bif decide ((↑j : Int).toNat < r.length) then bif decide ((0 : Int) ≤ gz r (↑j : Int).toNat) then bif iand.sv IntKind.i64 (ishr.sv IntKind.i64 u (gz r (↑j : Int).toNat)) (1 : Int) == (1 : Int) then bif decide ((0 : Int) ≤ gz r (↑j : Int).toNat) then bif allBun.sp (bunsB.sv (0 : Nat) Q) && true then L4 Q f n0 n2 n4 (mkX (102 : Nat) [((7 : Nat), AVal.own (0 : Nat) (0 : Nat) Q.length (0 : Nat) (1 : Nat)), ((9 : Nat), AVal.int IntKind.i64 b), ((10 : Nat), AVal.int IntKind.i64 c), ((11 : Nat), AVal.int IntKind.i64 m), ((12 : Nat), AVal.int IntKind.i64 (ior.sv IntKind.i64 u (ishl.sv IntKind.i64 (1 : Int) (gz r (↑j : Int).toNat)))), ((13 : Nat), AVal.int IntKind.i64 n), ((14 : Nat), AVal.bool false), ((16 : Nat), AVal.int IntKind.i64 i), ((37 : Nat), AVal.int IntKind.i64 z), ((38 : Nat), AVal.int IntKind.i64 m), ((42 : Nat), AVal.ro (Cont.ints IntKind.i64 l) l.length (1 : Nat)), ((43 : Nat), AVal.int IntKind.i64 (↑l.length : Int)), ((44 : Nat), AVal.int IntKind.i64 (↑k : Int)), ((51 : Nat), AVal.ro (Cont.ints IntKind.i64 r) r.length (1 : Nat)), ((52 : Nat), AVal.int IntKind.i64 (↑r.length : Int)), ((53 : Nat), AVal.int IntKind.i64 (IntKind.i64.wrap ((↑j : Int) + (1 : Int))))] [{ c := BC.cells (bunsB.sv (0 : Nat) Q), ver := (0 : Nat) }] Q.length) else none else none else bif decide ((0 : Int) ≤ gz r (↑j : Int).toNat) then bif allBun.sp (bunsB.sv (0 : Nat) Q) && true then L4 Q f n0 n2 n4 (mkX (102 : Nat) [((7 : Nat), AVal.own (0 : Nat) (0 : Nat) Q.length (0 : Nat) (1 : Nat)), ((9 : Nat), AVal.int IntKind.i64 b), ((10 : Nat), AVal.int IntKind.i64 c), ((11 : Nat), AVal.int IntKind.i64 m), ((12 : Nat), AVal.int IntKind.i64 (ior.sv IntKind.i64 u (ishl.sv IntKind.i64 (1 : Int) (gz r (↑j : Int).toNat)))), ((13 : Nat), AVal.int IntKind.i64 n), ((14 : Nat), AVal.bool ok), ((16 : Nat), AVal.int IntKind.i64 i), ((37 : Nat), AVal.int IntKind.i64 z), ((38 : Nat), AVal.int IntKind.i64 m), ((42 : Nat), AVal.ro (Cont.ints IntKind.i64 l) l.length (1 : Nat)), ((43 : Nat), AVal.int IntKind.i64 (↑l.length : Int)), ((44 : Nat), AVal.int IntKind.i64 (↑k : Int)), ((51 : Nat), AVal.ro (Cont.ints IntKind.i64 r) r.length (1 : Nat)), ((52 : Nat), AVal.int IntKind.i64 (↑r.length : Int)), ((53 : Nat), AVal.int IntKind.i64 (IntKind.i64.wrap ((↑j : Int) + (1 : Int))))] [{ c := BC.cells (bunsB.sv (0 : Nat) Q), ver := (0 : Nat) }] Q.length) else none else none else none else none else none else bif allBun.sp (bunsB.sv (0 : Nat) Q) && true then bif true && (decide ((0 : Int) ≤ i) && decide (i < (↑Q.length : Int))) then bif true && (eqC.sp (bunsB.sv (0 : Nat) Q) (bunsB.sv (0 : Nat) Q) && decide (i.toNat < Q.length)) then bif allBun.sp (bunsB.sv (0 : Nat) Q) && true then L2 Q f n0 n2 (mkX (102 : Nat) [((7 : Nat), AVal.own (0 : Nat) (0 : Nat) Q.length (0 : Nat) (1 : Nat)), ((9 : Nat), AVal.int IntKind.i64 b), ((10 : Nat), AVal.int IntKind.i64 c), ((11 : Nat), AVal.int IntKind.i64 m), ((12 : Nat), AVal.int IntKind.i64 u), ((13 : Nat), AVal.int IntKind.i64 (IntKind.i64.wrap (n + (↑(rowB.sv Q i.toNat).length : Int)))), ((14 : Nat), AVal.bool ok), ((37 : Nat), AVal.int IntKind.i64 z), ((38 : Nat), AVal.int IntKind.i64 m), ((42 : Nat), AVal.ro (Cont.ints IntKind.i64 l) l.length (1 : Nat)), ((43 : Nat), AVal.int IntKind.i64 (↑l.length : Int)), ((44 : Nat), AVal.int IntKind.i64 (IntKind.i64.wrap ((↑k : Int) + (1 : Int))))] [{ c := BC.cells (bunsB.sv (0 : Nat) Q), ver := (0 : Nat) }] Q.length) else none else none else none else none) := by kernel_rfl
theorem round6 (Q : List (List Int)) (us : List AVal) (l : List Int) (c : Int) (q h k f n : Nat) :
  L6 Q f (n + 1) (mkX 102 [(7, .own 0 0 Q.length 0 1), (10, .int .i64 c), (19, .own 1 0 q h 1), (86, .ro (.ints .i64 l) l.length 1), (87, .int .i64 ((l.length : Nat) : Int)), (88, .int .i64 ((k : Nat) : Int))] [⟨.cells (bunsB.sv 0 Q), 0⟩, ⟨.cells us, h⟩] Q.length)
  = (bif decide ((↑k : Int) < (↑l.length : Int)) then bif true && (decide ((0 : Int) ≤ (↑k : Int)) && decide ((↑k : Int) < (↑l.length : Int))) then bif decide ((↑k : Int).toNat < l.length) then bif true && (decide ((0 : Int) ≤ gz l (↑k : Int).toNat) && decide (gz l (↑k : Int).toNat < (↑Q.length : Int))) then bif true && (eqC.sp (bunsB.sv (0 : Nat) Q) (bunsB.sv (0 : Nat) Q) && decide ((gz l (↑k : Int).toNat).toNat < Q.length)) then bif (1 : Nat) == (1 : Nat) && (1 : Nat) == (1 : Nat) && (eqN h h && (true && true) && (true && (true && true) && (eqN (hlen us) q && (true && (true && true)) && (decide (q + (1 : Nat) ≤ (4611686018427387904 : Nat)) && decide ((q + (1 : Nat)) * (24 : Nat) ≤ (140737488355328 : Nat)))))) then bif true && (true && true) then bif allBun.sp (bunsB.sv (0 : Nat) Q) && (allBun.sp (app us [AVal.bun ((0 : Nat) + (gz l (↑k : Int).toNat).toNat) (Cont.ints IntKind.i64 (rowB.sv Q (gz l (↑k : Int).toNat).toNat)) (rowB.sv Q (gz l (↑k : Int).toNat).toNat).length]) && true) then L6 Q f n (mkX (102 : Nat) [((7 : Nat), AVal.own (0 : Nat) (0 : Nat) Q.length (0 : Nat) (1 : Nat)), ((10 : Nat), AVal.int IntKind.i64 c), ((19 : Nat), AVal.own (1 : Nat) (0 : Nat) (q + (1 : Nat)) (h + (1 : Nat)) (1 : Nat)), ((86 : Nat), AVal.ro (Cont.ints IntKind.i64 l) l.length (1 : Nat)), ((87 : Nat), AVal.int IntKind.i64 (↑l.length : Int)), ((88 : Nat), AVal.int IntKind.i64 (IntKind.i64.wrap ((↑k : Int) + (1 : Int))))] [{ c := BC.cells (bunsB.sv (0 : Nat) Q), ver := (0 : Nat) }, { c := BC.cells (app us [AVal.bun ((0 : Nat) + (gz l (↑k : Int).toNat).toNat) (Cont.ints IntKind.i64 (rowB.sv Q (gz l (↑k : Int).toNat).toNat)) (rowB.sv Q (gz l (↑k : Int).toNat).toNat).length]), ver := h + (1 : Nat) }] Q.length) else none else none else none else none else none else none else none else bif true && (true && true) then bif allBun.sp (bunsB.sv (0 : Nat) Q) && (allBun.sp us && true) then bif true && (true && true) then bif allBun.sp (bunsB.sv (0 : Nat) Q) && (allBun.sp us && true) then some (AVal.tup [AVal.int IntKind.i64 c, AVal.own (1 : Nat) (0 : Nat) q h (1 : Nat), AVal.bool true], [{ c := BC.cells (bunsB.sv (0 : Nat) Q), ver := (0 : Nat) }, { c := BC.cells us, ver := h }], Q.length) else none else none else none else none) := by kernel_rfl
theorem Cok (Q : List (List Int)) : YCok Try.prog (C Q) := ⟨by simp [C], by simp only [C, List.mem_cons, List.not_mem_nil, or_false, forall_eq]; exact kGiveRings.ok, by simp [C]⟩
theorem allBun_one (i : Nat) (c : Cont) (n : Nat) : allBun.sp [.bun i c n] = true := rfl
theorem allBun_nil : allBun.sp [] = true := rfl
theorem loop4 (Q : List (List Int)) (l r : List Int) (b c z m u0 n k f n0 n2 : Nat) (x : Int) (okb : Bool) (hx : 0 ≤ x ∧ x < (Q.length : Int)) (er : gr Q x.toNat = r) (h8 : r.length ≤ 8) (hin : ∀ y ∈ r, 0 ≤ y ∧ y < 8) (hu : u0 < 256) (hn : n ≤ 1000) (hl : l.length ≤ 16) (hk : k < l.length) : ∀ (d j n4 : Nat), j + d = r.length → d < n4 →
    L4 Q f n0 n2 n4 (mkX 102 [(7, .own 0 0 Q.length 0 1), (9, .int .i64 ((b : Nat) : Int)), (10, .int .i64 ((c : Nat) : Int)), (11, .int .i64 ((m : Nat) : Int)), (12, .int .i64 (((gvs.us.sv r u0 j) : Nat) : Int)), (13, .int .i64 ((n : Nat) : Int)), (14, .bool (okb && gvs.un.sp r u0 j)), (16, .int .i64 x), (37, .int .i64 ((z : Nat) : Int)), (38, .int .i64 ((m : Nat) : Int)), (42, .ro (.ints .i64 l) l.length 1), (43, .int .i64 ((l.length : Nat) : Int)), (44, .int .i64 ((k : Nat) : Int)), (51, .ro (.ints .i64 r) r.length 1), (52, .int .i64 ((r.length : Nat) : Int)), (53, .int .i64 ((j : Nat) : Int))] [⟨.cells (bunsB.sv 0 Q), 0⟩] Q.length) = L2 Q f n0 n2 (mkX 102 [(7, .own 0 0 Q.length 0 1), (9, .int .i64 ((b : Nat) : Int)), (10, .int .i64 ((c : Nat) : Int)), (11, .int .i64 ((m : Nat) : Int)), (12, .int .i64 (((gvs.us.sv r u0 r.length) : Nat) : Int)), (13, .int .i64 (((n + r.length) : Nat) : Int)), (14, .bool (okb && gvs.un.sp r u0 r.length)), (37, .int .i64 ((z : Nat) : Int)), (38, .int .i64 ((m : Nat) : Int)), (42, .ro (.ints .i64 l) l.length 1), (43, .int .i64 ((l.length : Nat) : Int)), (44, .int .i64 (((k + 1) : Nat) : Int))] [⟨.cells (bunsB.sv 0 Q), 0⟩] Q.length) := by
  intro d
  induction d with
  | zero =>
    intro j n4 hj hn4
    obtain ⟨n4, rfl⟩ : ∃ q, n4 = q + 1 := ⟨n4 - 1, by omega⟩
    obtain rfl : j = r.length := by omega
    rw [round4]
    simp -implicitDefEqProofs (disch := omega) only [eqN_eq, beq_self_eq_true, hlen_eq, app_eq, allBun_app, allBun_bunsB, eqC_rfl, rowB_gr, er, take_one, set_one, decide_eq_true, decide_eq_false, IntWalk.i64_in, beqT, beqF, bneT, bneF, nat_succ, ← Int.natCast_mul, ← Int.natCast_add, Int.toNat_natCast, Int.zero_mul, Int.zero_add, Int.add_zero, Nat.zero_add, Nat.add_zero, Nat.zero_mul, List.length_singleton, List.length_append, List.length_nil, List.length_cons, List.take_length, List.drop_zero, List.replicate_zero, List.take_nil, List.nil_append, Nat.reduceBEq, Nat.reduceMul, Nat.reduceLeDiff, eq_self, and_self, true_and, and_true, decide_true, decide_false, Bool.and_self, Bool.or_self, Bool.and_true, Bool.true_and, Bool.and_false, Bool.false_and, Bool.or_true, Bool.true_or, Bool.or_false, Bool.false_or, Bool.not_true, Bool.not_false, cond_true, cond_false]
  | succ d ih =>
    intro j n4 hj hn4
    obtain ⟨n4, rfl⟩ : ∃ q, n4 = q + 1 := ⟨n4 - 1, by omega⟩
    have g := ih (j + 1) n4 (by omega) (by omega)
    have hy := hin _ (gz_mem (show j < r.length by omega))
    obtain ⟨y, ey⟩ : ∃ y : Nat, gz r j = y := ⟨(gz r j).toNat, by omega⟩
    have hu2 := gvs.us_lt hin hu j (by omega)
    have u1 := gvs.shr_and (k := gvs.us.sv r u0 j) (i := y) (by omega) (by omega)
    have u2 := gvs.shl_one (i := y) (by omega)
    have u3 := gvs.or_shl _ hu2 y (by omega)
    rw [gvs.us.sv, gvs.un.sp, ey, Int.toNat_natCast] at g
    rw [round4]
    cases ho : gvs.off.sp (gvs.us.sv r u0 j) y
    · rw [ho, cond_false] at u1
      rw [ho, Bool.and_false, Bool.and_false] at g
      simp -implicitDefEqProofs (disch := omega) only [eqN_eq, beq_self_eq_true, hlen_eq, app_eq, allBun_app, allBun_bunsB, eqC_rfl, rowB_gr, ey, u1, u2, u3, take_one, set_one, decide_eq_true, decide_eq_false, IntWalk.i64_in, beqT, beqF, bneT, bneF, nat_succ, ← Int.natCast_mul, ← Int.natCast_add, Int.toNat_natCast, Int.zero_mul, Int.zero_add, Int.add_zero, Nat.zero_add, Nat.add_zero, Nat.zero_mul, List.length_singleton, List.length_append, List.length_nil, List.length_cons, List.take_length, List.drop_zero, List.replicate_zero, List.take_nil, List.nil_append, Nat.reduceBEq, Nat.reduceMul, Nat.reduceLeDiff, eq_self, and_self, true_and, and_true, decide_true, decide_false, Bool.and_self, Bool.or_self, Bool.and_true, Bool.true_and, Bool.and_false, Bool.false_and, Bool.or_true, Bool.true_or, Bool.or_false, Bool.false_or, Bool.not_true, Bool.not_false, cond_true, cond_false]
      exact g
    · rw [ho, cond_true] at u1
      rw [ho, Bool.and_true] at g
      simp -implicitDefEqProofs (disch := omega) only [eqN_eq, beq_self_eq_true, hlen_eq, app_eq, allBun_app, allBun_bunsB, eqC_rfl, rowB_gr, ey, u1, u2, u3, take_one, set_one, decide_eq_true, decide_eq_false, IntWalk.i64_in, beqT, beqF, bneT, bneF, nat_succ, ← Int.natCast_mul, ← Int.natCast_add, Int.toNat_natCast, Int.zero_mul, Int.zero_add, Int.add_zero, Nat.zero_add, Nat.add_zero, Nat.zero_mul, List.length_singleton, List.length_append, List.length_nil, List.length_cons, List.take_length, List.drop_zero, List.replicate_zero, List.take_nil, List.nil_append, Nat.reduceBEq, Nat.reduceMul, Nat.reduceLeDiff, eq_self, and_self, true_and, and_true, decide_true, decide_false, Bool.and_self, Bool.or_self, Bool.and_true, Bool.true_and, Bool.and_false, Bool.false_and, Bool.or_true, Bool.true_or, Bool.or_false, Bool.false_or, Bool.not_true, Bool.not_false, cond_true, cond_false]
      exact g
theorem loop2 (Q : List (List Int)) (l : List Int) (b c z m f n0 : Nat) (hf : 100 < f) (g : gvs.QOk Q) (hl : l.length ≤ 16) (hr : ∀ x ∈ l, 0 ≤ x ∧ x < (Q.length : Int)) (hm : m < 65536) (hc : c ≤ 1000) : ∀ (d k n2 : Nat), k + d = l.length → d < n2 →
    L2 Q f n0 n2 (mkX 102 [(7, .own 0 0 Q.length 0 1), (9, .int .i64 ((b : Nat) : Int)), (10, .int .i64 ((c : Nat) : Int)), (11, .int .i64 ((m : Nat) : Int)), (12, .int .i64 (((gvs.su.sv Q l k) : Nat) : Int)), (13, .int .i64 (((gvs.sc.sv Q l k) : Nat) : Int)), (14, .bool (gvs.sk.sp Q l k)), (37, .int .i64 ((z : Nat) : Int)), (38, .int .i64 ((m : Nat) : Int)), (42, .ro (.ints .i64 l) l.length 1), (43, .int .i64 ((l.length : Nat) : Int)), (44, .int .i64 ((k : Nat) : Int))] [⟨.cells (bunsB.sv 0 Q), 0⟩] Q.length) = L0 Q f n0 (mkX 102 [(7, .own 0 0 Q.length 0 1), (9, .int .i64 (((bif gvs.Sk Q l && decide (c < gvs.Sc Q l) then m else b) : Nat) : Int)), (10, .int .i64 (((bif gvs.Sk Q l && decide (c < gvs.Sc Q l) then gvs.Sc Q l else c) : Nat) : Int)), (37, .int .i64 ((z : Nat) : Int)), (38, .int .i64 (((m + 1) : Nat) : Int))] [⟨.cells (bunsB.sv 0 Q), 0⟩] Q.length) := by
  intro d
  induction d with
  | zero =>
    intro k n2 hk hn2
    obtain ⟨n2, rfl⟩ : ∃ q, n2 = q + 1 := ⟨n2 - 1, by omega⟩
    obtain rfl : k = l.length := by omega
    have e1 : gvs.sk.sp Q l l.length = gvs.Sk Q l := rfl
    have e2 : gvs.sc.sv Q l l.length = gvs.Sc Q l := rfl
    rw [round2, e1, e2]
    cases gvs.Sk Q l
    · simp -implicitDefEqProofs (disch := omega) only [eqN_eq, beq_self_eq_true, hlen_eq, app_eq, allBun_app, allBun_bunsB, eqC_rfl, rowB_gr, take_one, set_one, decide_eq_true, decide_eq_false, IntWalk.i64_in, beqT, beqF, bneT, bneF, nat_succ, ← Int.natCast_mul, ← Int.natCast_add, Int.toNat_natCast, Int.zero_mul, Int.zero_add, Int.add_zero, Nat.zero_add, Nat.add_zero, Nat.zero_mul, List.length_singleton, List.length_append, List.length_nil, List.length_cons, List.take_length, List.drop_zero, List.replicate_zero, List.take_nil, List.nil_append, Nat.reduceBEq, Nat.reduceMul, Nat.reduceLeDiff, eq_self, and_self, true_and, and_true, decide_true, decide_false, Bool.and_self, Bool.or_self, Bool.and_true, Bool.true_and, Bool.and_false, Bool.false_and, Bool.or_true, Bool.true_or, Bool.or_false, Bool.false_or, Bool.not_true, Bool.not_false, cond_true, cond_false]
    · by_cases cc : c < gvs.Sc Q l
      · simp -implicitDefEqProofs (disch := omega) only [eqN_eq, beq_self_eq_true, hlen_eq, app_eq, allBun_app, allBun_bunsB, eqC_rfl, rowB_gr, take_one, set_one, decide_eq_true, decide_eq_false, IntWalk.i64_in, beqT, beqF, bneT, bneF, nat_succ, ← Int.natCast_mul, ← Int.natCast_add, Int.toNat_natCast, Int.zero_mul, Int.zero_add, Int.add_zero, Nat.zero_add, Nat.add_zero, Nat.zero_mul, List.length_singleton, List.length_append, List.length_nil, List.length_cons, List.take_length, List.drop_zero, List.replicate_zero, List.take_nil, List.nil_append, Nat.reduceBEq, Nat.reduceMul, Nat.reduceLeDiff, eq_self, and_self, true_and, and_true, decide_true, decide_false, Bool.and_self, Bool.or_self, Bool.and_true, Bool.true_and, Bool.and_false, Bool.false_and, Bool.or_true, Bool.true_or, Bool.or_false, Bool.false_or, Bool.not_true, Bool.not_false, cond_true, cond_false]
      · simp -implicitDefEqProofs (disch := omega) only [eqN_eq, beq_self_eq_true, hlen_eq, app_eq, allBun_app, allBun_bunsB, eqC_rfl, rowB_gr, take_one, set_one, decide_eq_true, decide_eq_false, IntWalk.i64_in, beqT, beqF, bneT, bneF, nat_succ, ← Int.natCast_mul, ← Int.natCast_add, Int.toNat_natCast, Int.zero_mul, Int.zero_add, Int.add_zero, Nat.zero_add, Nat.add_zero, Nat.zero_mul, List.length_singleton, List.length_append, List.length_nil, List.length_cons, List.take_length, List.drop_zero, List.replicate_zero, List.take_nil, List.nil_append, Nat.reduceBEq, Nat.reduceMul, Nat.reduceLeDiff, eq_self, and_self, true_and, and_true, decide_true, decide_false, Bool.and_self, Bool.or_self, Bool.and_true, Bool.true_and, Bool.and_false, Bool.false_and, Bool.or_true, Bool.true_or, Bool.or_false, Bool.false_or, Bool.not_true, Bool.not_false, cond_true, cond_false]
  | succ d ih =>
    intro k n2 hk hn2
    obtain ⟨n2, rfl⟩ : ∃ q, n2 = q + 1 := ⟨n2 - 1, by omega⟩
    have hg := hr _ (gz_mem (show k < l.length by omega))
    have h1 := gvs.sc_le g hr k (by omega)
    have h2 := gvs.su_lt g hr k (by omega)
    have g8 := g.len (gz l k).toNat (by omega)
    have g2 := loop4 Q l (gr Q (gz l k).toNat) b c z m (gvs.su.sv Q l k) (gvs.sc.sv Q l k) k f n0 n2 (gz l k) (gvs.sk.sp Q l k) hg rfl g8 (g.ran _ (by omega)) h2 (by omega) hl (by omega) (gr Q (gz l k).toNat).length 0 f (by omega) (by omega)
    have g3 := ih (k + 1) n2 (by omega) (by omega)
    rw [gvs.su.sv, gvs.sc.sv, gvs.sk.sp] at g3
    rw [gvs.us.sv, gvs.un.sp, Bool.and_true] at g2
    rw [round2]
    simp -implicitDefEqProofs (disch := omega) only [eqN_eq, beq_self_eq_true, hlen_eq, app_eq, allBun_app, allBun_bunsB, eqC_rfl, rowB_gr, take_one, set_one, decide_eq_true, decide_eq_false, IntWalk.i64_in, beqT, beqF, bneT, bneF, nat_succ, ← Int.natCast_mul, ← Int.natCast_add, Int.toNat_natCast, Int.zero_mul, Int.zero_add, Int.add_zero, Nat.zero_add, Nat.add_zero, Nat.zero_mul, List.length_singleton, List.length_append, List.length_nil, List.length_cons, List.take_length, List.drop_zero, List.replicate_zero, List.take_nil, List.nil_append, Nat.reduceBEq, Nat.reduceMul, Nat.reduceLeDiff, eq_self, and_self, true_and, and_true, decide_true, decide_false, Bool.and_self, Bool.or_self, Bool.and_true, Bool.true_and, Bool.and_false, Bool.false_and, Bool.or_true, Bool.true_or, Bool.or_false, Bool.false_or, Bool.not_true, Bool.not_false, cond_true, cond_false]
    exact g2.trans g3
theorem loop6 (Q : List (List Int)) (l : List Int) (c f : Nat) (g : gvs.QOk Q) (hl : l.length ≤ 16) (hr : ∀ x ∈ l, 0 ≤ x ∧ x < (Q.length : Int)) : ∀ (d k n : Nat), k + d = l.length → d < n →
    L6 Q f n (mkX 102 [(7, .own 0 0 Q.length 0 1), (10, .int .i64 ((c : Nat) : Int)), (19, .own 1 0 k k 1), (86, .ro (.ints .i64 l) l.length 1), (87, .int .i64 ((l.length : Nat) : Int)), (88, .int .i64 ((k : Nat) : Int))] [⟨.cells (bunsB.sv 0 Q), 0⟩, ⟨.cells (gvs.pkB.sv Q l k), k⟩] Q.length) = some (.tup [.int .i64 ((c : Nat) : Int), .own 1 0 l.length l.length 1, .bool true], [⟨.cells (bunsB.sv 0 Q), 0⟩, ⟨.cells (gvs.pkB.sv Q l l.length), l.length⟩], Q.length) := by
  intro d
  induction d with
  | zero =>
    intro k n hk hn
    obtain ⟨n, rfl⟩ : ∃ q, n = q + 1 := ⟨n - 1, by omega⟩
    obtain rfl : k = l.length := by omega
    have ab := gvs.allBun_pkB Q l l.length
    have pl := gvs.pkB_len Q l l.length
    rw [round6]
    simp -implicitDefEqProofs (disch := omega) only [eqN_eq, beq_self_eq_true, hlen_eq, app_eq, allBun_app, allBun_bunsB, eqC_rfl, rowB_gr, ab, allBun_one, pl, take_one, set_one, decide_eq_true, decide_eq_false, IntWalk.i64_in, beqT, beqF, bneT, bneF, nat_succ, ← Int.natCast_mul, ← Int.natCast_add, Int.toNat_natCast, Int.zero_mul, Int.zero_add, Int.add_zero, Nat.zero_add, Nat.add_zero, Nat.zero_mul, List.length_singleton, List.length_append, List.length_nil, List.length_cons, List.take_length, List.drop_zero, List.replicate_zero, List.take_nil, List.nil_append, Nat.reduceBEq, Nat.reduceMul, Nat.reduceLeDiff, eq_self, and_self, true_and, and_true, decide_true, decide_false, Bool.and_self, Bool.or_self, Bool.and_true, Bool.true_and, Bool.and_false, Bool.false_and, Bool.or_true, Bool.true_or, Bool.or_false, Bool.false_or, Bool.not_true, Bool.not_false, cond_true, cond_false]
  | succ d ih =>
    intro k n hk hn
    obtain ⟨n, rfl⟩ : ∃ q, n = q + 1 := ⟨n - 1, by omega⟩
    have hg := hr _ (gz_mem (show k < l.length by omega))
    have g3 := ih (k + 1) n (by omega) (by omega)
    have pl := gvs.pkB_len Q l k
    have ab := gvs.allBun_pkB Q l k
    rw [gvs.pkB.sv] at g3
    rw [round6]
    simp -implicitDefEqProofs (disch := omega) only [eqN_eq, beq_self_eq_true, hlen_eq, app_eq, allBun_app, allBun_bunsB, eqC_rfl, rowB_gr, ab, allBun_one, pl, take_one, set_one, decide_eq_true, decide_eq_false, IntWalk.i64_in, beqT, beqF, bneT, bneF, nat_succ, ← Int.natCast_mul, ← Int.natCast_add, Int.toNat_natCast, Int.zero_mul, Int.zero_add, Int.add_zero, Nat.zero_add, Nat.add_zero, Nat.zero_mul, List.length_singleton, List.length_append, List.length_nil, List.length_cons, List.take_length, List.drop_zero, List.replicate_zero, List.take_nil, List.nil_append, Nat.reduceBEq, Nat.reduceMul, Nat.reduceLeDiff, eq_self, and_self, true_and, and_true, decide_true, decide_false, Bool.and_self, Bool.or_self, Bool.and_true, Bool.true_and, Bool.and_false, Bool.false_and, Bool.or_true, Bool.true_or, Bool.or_false, Bool.false_or, Bool.not_true, Bool.not_false, cond_true, cond_false]
    exact g3
theorem loop0 (Q : List (List Int)) (f : Nat) (hf : 100 < f) (g : gvs.QOk Q) (h16 : Q.length ≤ 16) (C : Nat) (z : Nat) (hz : z = 2 ^ Q.length) (hC : (gvs.bs Q Q.length z).2 = C) (l : List Int) (hZ : gvs.mb.sv (gvs.bs Q Q.length z).1 Q.length = l) : ∀ (d m n : Nat), m + d = z → d < n →
    L0 Q f n (mkX 102 [(7, .own 0 0 Q.length 0 1), (9, .int .i64 (((gvs.bs Q Q.length m).1 : Nat) : Int)), (10, .int .i64 (((gvs.bs Q Q.length m).2 : Nat) : Int)), (37, .int .i64 ((z : Nat) : Int)), (38, .int .i64 ((m : Nat) : Int))] [⟨.cells (bunsB.sv 0 Q), 0⟩] Q.length) = some (.tup [.int .i64 ((C : Nat) : Int), .own 1 0 l.length l.length 1, .bool true], [⟨.cells (bunsB.sv 0 Q), 0⟩, ⟨.cells (gvs.pkB.sv Q l l.length), l.length⟩], Q.length) := by
  have hp := gvs.pow_16 h16
  intro d
  induction d with
  | zero =>
    intro m n hm hn
    obtain ⟨n, rfl⟩ : ∃ q, n = q + 1 := ⟨n - 1, by omega⟩
    obtain rfl : m = z := by omega
    obtain ⟨b1, b2, b3⟩ := gvs.bs_good Q Q.length m (by omega)
    have em := gvs.mb_ln h16 b1
    have ml := gvs.mb_length (gvs.bs Q Q.length m).1 Q.length
    have g6 := loop6 Q (gvs.mb.sv (gvs.bs Q Q.length m).1 Q.length) C f g (by omega) gvs.mb_ran (gvs.mb.sv (gvs.bs Q Q.length m).1 Q.length).length 0 f (by omega) (by omega)
    rw [gvs.pkB.sv] at g6
    subst hZ
    rw [round0, hC]
    simp -implicitDefEqProofs (disch := omega) only [eqN_eq, beq_self_eq_true, hlen_eq, app_eq, allBun_app, allBun_bunsB, eqC_rfl, rowB_gr, em, allBun_nil, take_one, set_one, decide_eq_true, decide_eq_false, IntWalk.i64_in, beqT, beqF, bneT, bneF, nat_succ, ← Int.natCast_mul, ← Int.natCast_add, Int.toNat_natCast, Int.zero_mul, Int.zero_add, Int.add_zero, Nat.zero_add, Nat.add_zero, Nat.zero_mul, List.length_singleton, List.length_append, List.length_nil, List.length_cons, List.take_length, List.drop_zero, List.replicate_zero, List.take_nil, List.nil_append, Nat.reduceBEq, Nat.reduceMul, Nat.reduceLeDiff, eq_self, and_self, true_and, and_true, decide_true, decide_false, Bool.and_self, Bool.or_self, Bool.and_true, Bool.true_and, Bool.and_false, Bool.false_and, Bool.or_true, Bool.true_or, Bool.or_false, Bool.false_or, Bool.not_true, Bool.not_false, cond_true, cond_false]
    exact g6
  | succ d ih =>
    intro m n hm hn
    obtain ⟨n, rfl⟩ : ∃ q, n = q + 1 := ⟨n - 1, by omega⟩
    have g1 := ih (m + 1) n (by omega) (by omega)
    have em := gvs.mb_ln (k := m) h16 (by omega)
    have ml := gvs.mb_length m Q.length
    obtain ⟨b1, b2, b3⟩ := gvs.bs_good Q Q.length m (by omega)
    have ml2 := gvs.mb_length (gvs.bs Q Q.length m).1 Q.length
    have hs := gvs.sc_le g (l := gvs.mb.sv (gvs.bs Q Q.length m).1 Q.length) gvs.mb_ran _ (Nat.le_refl _)
    have e3 : gvs.Sc Q (gvs.mb.sv (gvs.bs Q Q.length m).1 Q.length) = gvs.sc.sv Q (gvs.mb.sv (gvs.bs Q Q.length m).1 Q.length) (gvs.mb.sv (gvs.bs Q Q.length m).1 Q.length).length := rfl
    have g2 := loop2 Q (gvs.mb.sv m Q.length) (gvs.bs Q Q.length m).1 (gvs.bs Q Q.length m).2 z m f n hf g (by omega) gvs.mb_ran (by omega) (by omega) (gvs.mb.sv m Q.length).length 0 f (by omega) (by omega)
    rw [gvs.su.sv, gvs.sc.sv, gvs.sk.sp] at g2
    have e4 : (gvs.bs Q Q.length (m + 1)).1 = bif gvs.Sk Q (gvs.mb.sv m Q.length) && decide ((gvs.bs Q Q.length m).2 < gvs.Sc Q (gvs.mb.sv m Q.length)) then m else (gvs.bs Q Q.length m).1 := by
      rw [gvs.bs]; cases gvs.Sk Q (gvs.mb.sv m Q.length) && decide ((gvs.bs Q Q.length m).2 < gvs.Sc Q (gvs.mb.sv m Q.length)) <;> rfl
    have e5 : (gvs.bs Q Q.length (m + 1)).2 = bif gvs.Sk Q (gvs.mb.sv m Q.length) && decide ((gvs.bs Q Q.length m).2 < gvs.Sc Q (gvs.mb.sv m Q.length)) then gvs.Sc Q (gvs.mb.sv m Q.length) else (gvs.bs Q Q.length m).2 := by
      rw [gvs.bs]; cases gvs.Sk Q (gvs.mb.sv m Q.length) && decide ((gvs.bs Q Q.length m).2 < gvs.Sc Q (gvs.mb.sv m Q.length)) <;> rfl
    rw [e4, e5] at g1
    rw [round0]
    simp -implicitDefEqProofs (disch := omega) only [eqN_eq, beq_self_eq_true, hlen_eq, app_eq, allBun_app, allBun_bunsB, eqC_rfl, rowB_gr, em, take_one, set_one, decide_eq_true, decide_eq_false, IntWalk.i64_in, beqT, beqF, bneT, bneF, nat_succ, ← Int.natCast_mul, ← Int.natCast_add, Int.toNat_natCast, Int.zero_mul, Int.zero_add, Int.add_zero, Nat.zero_add, Nat.add_zero, Nat.zero_mul, List.length_singleton, List.length_append, List.length_nil, List.length_cons, List.take_length, List.drop_zero, List.replicate_zero, List.take_nil, List.nil_append, Nat.reduceBEq, Nat.reduceMul, Nat.reduceLeDiff, eq_self, and_self, true_and, and_true, decide_true, decide_false, Bool.and_self, Bool.or_self, Bool.and_true, Bool.true_and, Bool.and_false, Bool.false_and, Bool.or_true, Bool.true_or, Bool.or_false, Bool.false_or, Bool.not_true, Bool.not_false, cond_true, cond_false]
    exact g2.trans g1
def cq : List AVal → List (List Int)
  | [.ro (.rows .i64 W) _ _, .int _ l] => gvs.rs.sv W l.toNat
  | _ => []
def cm : List AVal → Int
  | [.ro (.rows .i64 W) _ _, .int _ l] => ((gvs.mc.sv W l.toNat : Nat) : Int)
  | _ => 0
theorem inT (args : List AVal) (F1 : Forb) (ρ1 : List Nat) (H1 : Heap) (w : World) (v : AVal) (c : Value) (h : @VR F1 ρ1 H1 w (.tup [.int .i64 (cm args), v, .bool true]) c) : ∃ x, @VR F1 ρ1 H1 w v x ∧ ∀ (F2 : Forb) (u : AVal), @VR F2 [] [] w u x → @VR F2 [] [] w (.tup [.int .i64 (cm args), u, .bool true]) c := by
  obtain ⟨a, b, d, rfl, h1, h2, h3⟩ := tup3_inv h
  cases h1
  cases h3
  exact ⟨b, h2, fun F2 u hu => tup3_mk (@VR.int F2 [] [] w _ _) hu (@VR.bool F2 [] [] w true)⟩
theorem run (W : List (List Int)) (M : Nat) (hv : gvs.gv.sp W ((M : Nat) : Int) = true) (hmo : gvs.mo.sp W M = true) : ∃ fuel, runFnY Try.prog (orcF [⟨41, layF members.R⟩] (orcV [])) (C (gvs.rs.sv W M)) hd Dr.std en cut fuel (bodyOf Try.f18) 102 [4, 5, 6] [.ro (.rows .i64 W) W.length 1, .int .i64 ((M : Nat) : Int)] [] 0 = some (.tup [.int .i64 ((gvs.mc.sv W M : Nat) : Int), .own 1 0 (gvs.mb.sv (gvs.best W M).1 (gvs.rs.sv W M).length).length (gvs.mb.sv (gvs.best W M).1 (gvs.rs.sv W M).length).length 1, .bool true], [⟨.cells (bunsB.sv 0 (gvs.rs.sv W M)), 0⟩, ⟨.cells (gvs.pkB.sv (gvs.rs.sv W M) (gvs.mb.sv (gvs.best W M).1 (gvs.rs.sv W M).length) (gvs.mb.sv (gvs.best W M).1 (gvs.rs.sv W M).length).length), (gvs.mb.sv (gvs.best W M).1 (gvs.rs.sv W M).length).length⟩], (gvs.rs.sv W M).length) := by
  obtain ⟨g, hM2, hM4⟩ := gvs.valid hv
  have h8 := g.h8
  have h16 : (gvs.rs.sv W M).length ≤ 16 := of_decide_eq_true hmo
  have hp := gvs.pow_16 h16
  have u2 := gvs.shl_one (i := (gvs.rs.sv W M).length) (by omega)
  obtain ⟨F, hF⟩ : ∃ F : Nat, F = 70000 := ⟨70000, rfl⟩
  refine ⟨F, ?_⟩
  have ec : gvs.mc.sv W M = (gvs.best W M).2 := by unfold gvs.mc.sv; rw [hmo]; rfl
  have g2 := loop0 (gvs.rs.sv W M) F (by omega) (gvs.rs_qok g (by omega)) h16 (gvs.mc.sv W M) (2 ^ (gvs.rs.sv W M).length) rfl ec.symm (gvs.mb.sv (gvs.best W M).1 (gvs.rs.sv W M).length) rfl (2 ^ (gvs.rs.sv W M).length) 0 F (by omega) (by omega)
  rw [gvs.bs] at g2
  have st := start W ((M : Nat) : Int) F
  rw [Int.toNat_natCast] at st
  rw [st]
  simp -implicitDefEqProofs (disch := omega) only [eqN_eq, beq_self_eq_true, hlen_eq, app_eq, allBun_app, allBun_bunsB, eqC_rfl, rowB_gr, hv, u2, take_one, set_one, decide_eq_true, decide_eq_false, IntWalk.i64_in, beqT, beqF, bneT, bneF, nat_succ, ← Int.natCast_mul, ← Int.natCast_add, Int.toNat_natCast, Int.zero_mul, Int.zero_add, Int.add_zero, Nat.zero_add, Nat.add_zero, Nat.zero_mul, List.length_singleton, List.length_append, List.length_nil, List.length_cons, List.take_length, List.drop_zero, List.replicate_zero, List.take_nil, List.nil_append, Nat.reduceBEq, Nat.reduceMul, Nat.reduceLeDiff, eq_self, and_self, true_and, and_true, decide_true, decide_false, Bool.and_self, Bool.or_self, Bool.and_true, Bool.true_and, Bool.and_false, Bool.false_and, Bool.or_true, Bool.true_or, Bool.or_false, Bool.false_or, Bool.not_true, Bool.not_false, cond_true, cond_false]
  exact g2
def R : List AVal → Option (Bool × AVal × Nat)
  | [.ro (.rows .i64 W) m 1, .int .i64 l] => some (decide (m = W.length) && (gvs.gv.sp W l && gvs.mo.sp W l.toNat), .tup [.int .i64 ((gvs.mc.sv W l.toNat : Nat) : Int), .bun 0 (.rows .i64 (gvs.mr.sv W l.toNat)) (gvs.mr.sv W l.toNat).length, .bool true], 1)
  | _ => none
theorem ok : KOk Try.prog ⟨18, R⟩ := by
  refine kY_ok mixed (A := (orcF [⟨41, layF members.R⟩] (orcV []))) (orcF_ok (by simp only [List.mem_cons, List.not_mem_nil, or_false, forall_eq]; exact members.ok.frz) (orcV_ok (by simp))) (fun args => C (cq args)) (fun args => Cok _) Try.func18 (by kernel_rfl) (by kernel_rfl) (n := 102) (ts := [4, 5, 6]) (hd := hd) (dr := Dr.std) (en := en) (cut := cut) (by kernel_rfl) (by kernel_rfl) (by kernel_rfl) (fun args v => .tup [.int .i64 (cm args), v, .bool true]) inT fun args u k h => ?_
  unfold R at h
  split at h
  · rename_i W m l
    simp only [Option.some.injEq, Prod.mk.injEq, Bool.and_eq_true, decide_eq_true_eq] at h
    obtain ⟨⟨rfl, hv, hmo⟩, rfl, rfl⟩ := h
    obtain ⟨g, hM2, hM4⟩ := gvs.valid hv
    obtain ⟨M, rfl⟩ : ∃ x : Nat, l = x := ⟨l.toNat, by omega⟩
    rw [Int.toNat_natCast] at hmo ⊢
    obtain ⟨F, hr⟩ := run W M hv hmo
    have er : gvs.mr.sv W M = gvs.pk.sv (gvs.rs.sv W M) (gvs.mb.sv (gvs.best W M).1 (gvs.rs.sv W M).length) (gvs.mb.sv (gvs.best W M).1 (gvs.rs.sv W M).length).length := by unfold gvs.mr.sv; rw [hmo]; rfl
    have el : (gvs.mr.sv W M).length = (gvs.mb.sv (gvs.best W M).1 (gvs.rs.sv W M).length).length := by rw [er, gvs.pk_length]
    have nd := gvs.mb_nodup (gvs.best W M).1 (gvs.rs.sv W M).length
    refine ⟨gvs.mr.sv W M, F, _, _, 1, (gvs.mb.sv (gvs.best W M).1 (gvs.rs.sv W M).length).length, (gvs.mb.sv (gvs.best W M).1 (gvs.rs.sv W M).length).length, gvs.pkB.sv (gvs.rs.sv W M) (gvs.mb.sv (gvs.best W M).1 (gvs.rs.sv W M).length) (gvs.mb.sv (gvs.best W M).1 (gvs.rs.sv W M).length).length, fun j => (gz (gvs.mb.sv (gvs.best W M).1 (gvs.rs.sv W M).length) j).toNat, ?_, rfl, el, fun i j hi hj he => ?_, fun j r hj => ?_, rfl, hr⟩
    · rw [el]; rfl
    · have a1 := gvs.mb_ran _ (gz_mem hi)
      have a2 := gvs.mb_ran _ (gz_mem hj)
      have e : gz (gvs.mb.sv (gvs.best W M).1 (gvs.rs.sv W M).length) i = gz (gvs.mb.sv (gvs.best W M).1 (gvs.rs.sv W M).length) j := by
        have he' : (gz (gvs.mb.sv (gvs.best W M).1 (gvs.rs.sv W M).length) i).toNat = (gz (gvs.mb.sv (gvs.best W M).1 (gvs.rs.sv W M).length) j).toNat := he
        omega
      rw [gz_eq hi, gz_eq hj] at e
      exact (List.getElem_inj nd).1 e
    · have hlt : j < (gvs.mb.sv (gvs.best W M).1 (gvs.rs.sv W M).length).length := by rw [← el]; exact (List.getElem?_eq_some_iff.1 hj).1
      obtain ⟨p1, p2⟩ := gvs.pkB_at (gvs.rs.sv W M) (gvs.mb.sv (gvs.best W M).1 (gvs.rs.sv W M).length) _ j hlt
      rw [er, p2] at hj
      simp only [Option.some.injEq] at hj
      subst hj
      exact p1
  · cases h
end kMostGiven


-- numbers
namespace gvs
theorem sh_mono {a b : Nat} (h : a ≤ b) {xs : List (List Int)} (hs : short.sp a xs = true) : short.sp b xs = true := by
  simp only [short.sp, List.all_eq_true, decide_eq_true_eq] at hs ⊢
  exact fun r hr => Nat.le_trans (hs r hr) h
end gvs

namespace iGiveRingsF
def R : List AVal → Option (Bool × AVal × List Blk)
  | [.ro (.rows .i64 W) m 1, .int .i64 l] => some (decide (m = W.length ∧ m ≤ 4611686018427387903) && (short.sp 4611686018427387903 W && !gvs.gv.sp W l), .tup [.nils, .bool false], [])
  | _ => none
def hd : Nat → Head := fun i => bif eqN i 0 then ⟨[998, 1, 2, 6, 7], none⟩ else ⟨[998, 1, 2, 6, 7, 8, 9, 24, 25], none⟩
noncomputable def L0 (f n : Nat) (s : State) := loopAt Try.prog (orc [⟨56, areGives.R⟩]) hd Dr.std 0 f (bodyOf Try.f40) 0 [true, true, true, false, true] (retK Try.prog [4, 5] 0 (some 0)) n s
theorem go (W : List (List Int)) (l : Int) (f : Nat) :
  runFn Try.prog (orc [⟨56, areGives.R⟩]) hd Dr.std (some 0) f (bodyOf Try.f40) 38 [4, 5] [.ro (.rows .i64 W) W.length 1, .int .i64 l] []
  = (bif true && true then bif decide (W.length = W.length ∧ W.length ≤ (4611686018427387903 : Nat)) && short.sp (4611686018427387903 : Nat) W && (true && (true && true) || true && true) then bif !gvs.gv.sp W l then some (AVal.tup [AVal.nils, AVal.bool false], []) else L0 f f (mkS (38 : Nat) [((1 : Nat), AVal.int IntKind.i64 l), ((2 : Nat), AVal.ptr (0 : Nat) (0 : Nat) (0 : Nat)), ((6 : Nat), AVal.ptr (1 : Nat) (0 : Nat) (0 : Nat)), ((7 : Nat), AVal.ptr (3 : Nat) (0 : Nat) (0 : Nat))] [{ c := BC.cells [AVal.ro (Cont.rows IntKind.i64 W) W.length (1 : Nat)], ver := (0 : Nat) }, { c := BC.cells [AVal.own (2 : Nat) (0 : Nat) (0 : Nat) (0 : Nat) (1 : Nat)], ver := (0 : Nat) }, { c := BC.typ (Cont.rows IntKind.i64 (List.replicate (0 : Nat) [])), ver := (0 : Nat) }, { c := BC.cells [AVal.int IntKind.i64 (2 : Int)], ver := (0 : Nat) }]) else none else none) := by kernel_rfl
theorem run : ∀ args v new, R args = some (true, v, new) → ∃ fuel, runFn Try.prog (orc [⟨56, areGives.R⟩]) hd Dr.std (some 0) fuel (bodyOf Try.f40) 38 [4, 5] args [] = some (v, new) := by
  intro args v new h
  unfold R at h
  split at h
  · rename_i W m l
    simp only [Option.some.injEq, Prod.mk.injEq, Bool.and_eq_true, decide_eq_true_eq, Bool.not_eq_true'] at h
    obtain ⟨⟨⟨rfl, h1⟩, h2, h3⟩, rfl, rfl⟩ := h
    refine ⟨0, ?_⟩
    rw [go]
    simp -implicitDefEqProofs (disch := omega) only [h2, h3, take_one, set_one, decide_eq_true, decide_eq_false, IntWalk.i64_in, beqT, beqF, bneT, bneF, nat_succ, ← Int.natCast_mul, ← Int.natCast_add, Int.toNat_natCast, Int.zero_mul, Int.zero_add, Int.add_zero, Nat.zero_add, Nat.add_zero, Nat.zero_mul, List.length_singleton, List.length_append, List.length_nil, List.length_cons, List.take_length, List.drop_zero, List.replicate_zero, List.take_nil, List.nil_append, Nat.reduceBEq, Nat.reduceMul, Nat.reduceLeDiff, eq_self, and_self, true_and, and_true, decide_true, decide_false, Bool.and_self, Bool.or_self, Bool.and_true, Bool.true_and, Bool.and_false, Bool.false_and, Bool.or_true, Bool.true_or, Bool.or_false, Bool.false_or, Bool.not_true, Bool.not_false, cond_true, cond_false]
  · cases h
theorem ok : EntOk Try.prog ⟨40, R⟩ :=
  ent_okA mixed (A := (orc [⟨56, areGives.R⟩])) (orc_ok (by simp only [List.mem_cons, List.not_mem_nil, or_false, forall_eq_or_imp, forall_eq]; exact areGives.ok)) Try.func40 (by kernel_rfl) (by kernel_rfl) (n := 38) (ts := [4, 5]) (hd := hd) (dr := Dr.std) (cut := (some 0)) (by kernel_rfl) (by kernel_rfl) (by kernel_rfl) run
end iGiveRingsF

namespace iMostGivenF
def R : List AVal → Option (Bool × AVal × List Blk)
  | [.ro (.rows .i64 W) m 1, .int .i64 l] => some (decide (m = W.length ∧ m ≤ 4611686018427387903) && (short.sp 4611686018427387903 W && !gvs.gv.sp W l), .tup [.int .i64 0, .nils, .bool false], [])
  | _ => none
theorem go (W : List (List Int)) (l : Int) :
  runFn Try.prog (orc [⟨40, iGiveRingsF.R⟩]) hd0 Dr.std none 0 (bodyOf Try.f18) 102 [4, 5, 6] [.ro (.rows .i64 W) W.length 1, .int .i64 l] []
  = (bif decide (W.length = W.length ∧ W.length ≤ (4611686018427387903 : Nat)) && (short.sp (4611686018427387903 : Nat) W && !gvs.gv.sp W l) && (true && (true && true) || true && true) then some (AVal.tup [AVal.int IntKind.i64 (0 : Int), AVal.nils, AVal.bool false], []) else none) := by kernel_rfl
theorem run : ∀ args v new, R args = some (true, v, new) → ∃ fuel, runFn Try.prog (orc [⟨40, iGiveRingsF.R⟩]) hd0 Dr.std none fuel (bodyOf Try.f18) 102 [4, 5, 6] args [] = some (v, new) := by
  intro args v new h
  unfold R at h
  split at h
  · rename_i W m l
    simp only [Option.some.injEq, Prod.mk.injEq, Bool.and_eq_true, decide_eq_true_eq, Bool.not_eq_true'] at h
    obtain ⟨⟨⟨rfl, h1⟩, h2, h3⟩, rfl, rfl⟩ := h
    refine ⟨0, ?_⟩
    rw [go]
    simp -implicitDefEqProofs (disch := omega) only [h2, h3, take_one, set_one, decide_eq_true, decide_eq_false, IntWalk.i64_in, beqT, beqF, bneT, bneF, nat_succ, ← Int.natCast_mul, ← Int.natCast_add, Int.toNat_natCast, Int.zero_mul, Int.zero_add, Int.add_zero, Nat.zero_add, Nat.add_zero, Nat.zero_mul, List.length_singleton, List.length_append, List.length_nil, List.length_cons, List.take_length, List.drop_zero, List.replicate_zero, List.take_nil, List.nil_append, Nat.reduceBEq, Nat.reduceMul, Nat.reduceLeDiff, eq_self, and_self, true_and, and_true, decide_true, decide_false, Bool.and_self, Bool.or_self, Bool.and_true, Bool.true_and, Bool.and_false, Bool.false_and, Bool.or_true, Bool.true_or, Bool.or_false, Bool.false_or, Bool.not_true, Bool.not_false, cond_true, cond_false]
  · cases h
theorem ok : EntOk Try.prog ⟨18, R⟩ :=
  ent_okA mixed (A := (orc [⟨40, iGiveRingsF.R⟩])) (orc_ok (by simp only [List.mem_cons, List.not_mem_nil, or_false, forall_eq_or_imp, forall_eq]; exact iGiveRingsF.ok)) Try.func18 (by kernel_rfl) (by kernel_rfl) (n := 102) (ts := [4, 5, 6]) (hd := hd0) (dr := Dr.std) (cut := none) (by kernel_rfl) (by kernel_rfl) (by kernel_rfl) run
end iMostGivenF

namespace sMostGivenF
def R : List AVal → Option (Bool × AVal × List Blk)
  | [.ro (.rows .i64 W) m 1, .int .i64 l] => some (decide (m = W.length ∧ m ≤ 4611686018427387903) && (short.sp 4611686018427387903 W && !gvs.gv.sp W l), .tup [.int .i64 0, .nils, .bool false], [])
  | _ => none
theorem go (W : List (List Int)) (l : Int) :
  runFn Try.prog (orc [⟨37, l05Gives.R⟩]) hd0 Dr.std none 0 (bodyOf Try.f16) 114 [4, 5, 6] [.ro (.rows .i64 W) W.length 1, .int .i64 l] []
  = (bif decide (W.length = W.length ∧ W.length ≤ (4611686018427387904 : Nat)) && short.sp (4611686018427387904 : Nat) W && (true && (true && true) || true && true) then bif !gvs.gv.sp W l then some (AVal.tup [AVal.int IntKind.i64 (0 : Int), AVal.nils, AVal.bool false], []) else none else none) := by kernel_rfl
theorem run : ∀ args v new, R args = some (true, v, new) → ∃ fuel, runFn Try.prog (orc [⟨37, l05Gives.R⟩]) hd0 Dr.std none fuel (bodyOf Try.f16) 114 [4, 5, 6] args [] = some (v, new) := by
  intro args v new h
  unfold R at h
  split at h
  · rename_i W m l
    simp only [Option.some.injEq, Prod.mk.injEq, Bool.and_eq_true, decide_eq_true_eq, Bool.not_eq_true'] at h
    obtain ⟨⟨⟨rfl, h1⟩, h2, h3⟩, rfl, rfl⟩ := h
    refine ⟨0, ?_⟩
    have h4 : short.sp 4611686018427387904 W = true := gvs.sh_mono (by omega) h2
    rw [go]
    simp -implicitDefEqProofs (disch := omega) only [h4, h3, take_one, set_one, decide_eq_true, decide_eq_false, IntWalk.i64_in, beqT, beqF, bneT, bneF, nat_succ, ← Int.natCast_mul, ← Int.natCast_add, Int.toNat_natCast, Int.zero_mul, Int.zero_add, Int.add_zero, Nat.zero_add, Nat.add_zero, Nat.zero_mul, List.length_singleton, List.length_append, List.length_nil, List.length_cons, List.take_length, List.drop_zero, List.replicate_zero, List.take_nil, List.nil_append, Nat.reduceBEq, Nat.reduceMul, Nat.reduceLeDiff, eq_self, and_self, true_and, and_true, decide_true, decide_false, Bool.and_self, Bool.or_self, Bool.and_true, Bool.true_and, Bool.and_false, Bool.false_and, Bool.or_true, Bool.true_or, Bool.or_false, Bool.false_or, Bool.not_true, Bool.not_false, cond_true, cond_false]
  · cases h
theorem ok : EntOk Try.prog ⟨16, R⟩ :=
  ent_okA mixed (A := (orc [⟨37, l05Gives.R⟩])) (orc_ok (by simp only [List.mem_cons, List.not_mem_nil, or_false, forall_eq_or_imp, forall_eq]; exact l05Gives.ok)) Try.func16 (by kernel_rfl) (by kernel_rfl) (n := 114) (ts := [4, 5, 6]) (hd := hd0) (dr := Dr.std) (cut := none) (by kernel_rfl) (by kernel_rfl) (by kernel_rfl) run
end sMostGivenF

namespace iMostGivenW
def R : List AVal → Option (Bool × AVal × List Blk)
  | [.ro (.rows .i64 W) m 1, .int .i64 l] => some (decide (m = W.length) && (gvs.gv.sp W l && !gvs.mo.sp W l.toNat), .tup [.int .i64 0, .nils, .bool false], [])
  | _ => none
def hd : Nat → HeadY := fun _ => ⟨[7, 9, 10, 37, 38], 1, [], [0]⟩
def cut : HeadY := ⟨[], 0, [], []⟩
noncomputable def L0 (Q : List (List Int)) (f n : Nat) (x : SX) := loopY Try.prog (orcV []) (kMostGiven.C Q) hd Dr.std kMostGiven.en 0 f (bodyOf Try.f18) 0 [true, true, true, true, false, true] (retY Try.prog [4, 5, 6] 0 cut) n x
theorem start (W : List (List Int)) (l : Int) (f : Nat) :
  runFnY Try.prog (orcV []) (kMostGiven.C (gvs.rs.sv W l.toNat)) hd Dr.std kMostGiven.en cut f (bodyOf Try.f18) 102 [4, 5, 6] [.ro (.rows .i64 W) W.length 1, .int .i64 l] [] 0
  = (bif true && (true && true) && (decide (W.length = W.length) && gvs.gv.sp W l) && decide ((gvs.rs.sv W l.toNat).length = (gvs.rs.sv W l.toNat).length) then bif decide ((16 : Int) < (↑(gvs.rs.sv W l.toNat).length : Int)) then some (AVal.tup [AVal.int IntKind.i64 (0 : Int), AVal.nils, AVal.bool false], [], (0 : Nat) + (gvs.rs.sv W l.toNat).length) else bif decide ((0 : Int) ≤ (↑(gvs.rs.sv W l.toNat).length : Int)) then bif allBun.sp (bunsB.sv (0 : Nat) (gvs.rs.sv W l.toNat)) && true then L0 (gvs.rs.sv W l.toNat) f f (mkX (102 : Nat) [((7 : Nat), AVal.own (0 : Nat) (0 : Nat) (gvs.rs.sv W l.toNat).length (0 : Nat) (1 : Nat)), ((9 : Nat), AVal.int IntKind.i64 (0 : Int)), ((10 : Nat), AVal.int IntKind.i64 (0 : Int)), ((37 : Nat), AVal.int IntKind.i64 (ishl.sv IntKind.i64 (1 : Int) (↑(gvs.rs.sv W l.toNat).length : Int))), ((38 : Nat), AVal.int IntKind.i64 (0 : Int))] [{ c := BC.cells (bunsB.sv (0 : Nat) (gvs.rs.sv W l.toNat)), ver := (0 : Nat) }] ((0 : Nat) + (gvs.rs.sv W l.toNat).length)) else none else none else none) := by kernel_rfl
theorem ok : EntOk Try.prog ⟨18, R⟩ := by
  refine ent_okY mixed (A := orcV []) (orcV_ok (by simp)) (fun args => kMostGiven.C (kMostGiven.cq args)) (fun args => kMostGiven.Cok _) Try.func18 (by kernel_rfl) (by kernel_rfl) (n := 102) (ts := [4, 5, 6]) (hd := hd) (dr := Dr.std) (en := kMostGiven.en) (cut := cut) (by kernel_rfl) (by kernel_rfl) (by kernel_rfl) fun args v new h => ?_
  unfold R at h
  split at h
  · rename_i W m l
    simp only [Option.some.injEq, Prod.mk.injEq, Bool.and_eq_true, decide_eq_true_eq, Bool.not_eq_true'] at h
    obtain ⟨⟨rfl, hv, hmo⟩, rfl, rfl⟩ := h
    have h16 : ¬ (gvs.rs.sv W l.toNat).length ≤ 16 := of_decide_eq_false hmo
    have hr := start W l 0
    simp -implicitDefEqProofs (disch := omega) only [hv, take_one, set_one, decide_eq_true, decide_eq_false, IntWalk.i64_in, beqT, beqF, bneT, bneF, nat_succ, ← Int.natCast_mul, ← Int.natCast_add, Int.toNat_natCast, Int.zero_mul, Int.zero_add, Int.add_zero, Nat.zero_add, Nat.add_zero, Nat.zero_mul, List.length_singleton, List.length_append, List.length_nil, List.length_cons, List.take_length, List.drop_zero, List.replicate_zero, List.take_nil, List.nil_append, Nat.reduceBEq, Nat.reduceMul, Nat.reduceLeDiff, eq_self, and_self, true_and, and_true, decide_true, decide_false, Bool.and_self, Bool.or_self, Bool.and_true, Bool.true_and, Bool.and_false, Bool.false_and, Bool.or_true, Bool.true_or, Bool.or_false, Bool.false_or, Bool.not_true, Bool.not_false, cond_true, cond_false] at hr
    exact ⟨rfl, rfl, rfl, 0, _, _, hr⟩
  · cases h
end iMostGivenW

namespace iMostGivenN
def R (args : List AVal) : Option (Bool × AVal × List Blk) := match args with
  | [.ro (.rows .i64 W) m 1, .int .i64 l] => some (decide (m = W.length ∧ m ≤ 4611686018427387903) && (short.sp 4611686018427387903 W && !(gvs.gv.sp W l && gvs.mo.sp W l.toNat)), .tup [.int .i64 0, .nils, .bool false], [])
  | _ => none
theorem ok : EntOk Try.prog ⟨18, R⟩ := by
  refine EntOk.cases iMostGivenF.ok iMostGivenW.ok fun args v new h => ?_
  unfold R at h
  split at h
  · rename_i W m l
    simp only [Option.some.injEq, Prod.mk.injEq, Bool.and_eq_true, decide_eq_true_eq] at h
    obtain ⟨⟨⟨h1, h2⟩, h3, h4⟩, rfl, rfl⟩ := h
    cases hg : gvs.gv.sp W l
    · left
      simp only [iMostGivenF.R, h1, hg, h3, true_and, decide_eq_true (show W.length ≤ 4611686018427387903 by omega), Bool.not_false, Bool.and_self]
    · right
      rw [hg, Bool.true_and] at h4
      simp only [iMostGivenW.R, h1, hg, h4, decide_true, Bool.and_self]
  · cases h
end iMostGivenN

namespace sMostGivenN
def R (args : List AVal) : Option (Bool × AVal × List Blk) := match args with
  | [.ro (.rows .i64 W) m 1, .int .i64 l] => some (decide (m = W.length ∧ m ≤ 4611686018427387903) && (short.sp 4611686018427387903 W && !(gvs.gv.sp W l && gvs.mo.sp W l.toNat)), .tup [.int .i64 0, .nils, .bool false], [])
  | _ => none
theorem ok : EntOk Try.prog ⟨16, R⟩ := by
  refine EntOk.cases sMostGivenF.ok sMostGiven.okf fun args v new h => ?_
  unfold R at h
  split at h
  · rename_i W m l
    simp only [Option.some.injEq, Prod.mk.injEq, Bool.and_eq_true, decide_eq_true_eq] at h
    obtain ⟨⟨⟨h1, h2⟩, h3, h4⟩, rfl, rfl⟩ := h
    cases hg : gvs.gv.sp W l
    · left
      simp only [sMostGivenF.R, h1, hg, h3, true_and, decide_eq_true (show W.length ≤ 4611686018427387903 by omega), Bool.not_false, Bool.and_self]
    · right
      rw [hg, Bool.true_and] at h4
      simp only [sMostGiven.Rf, h1, hg, h4, decide_true, Bool.and_self]
  · cases h
end sMostGivenN

namespace mInt64SSn
def R (x : AVal) (k : Int) : Option (Bool × Int) := match x with
  | .nils => some (true, k)
  | x => mInt64SS.R x k
theorem ok : MOk Try.prog ⟨20, mInt64SS.ix, R⟩ := by
  refine ⟨mInt64SS.ok.1, fun x k r h0 Fb ρ H w c S E hv => ?_⟩
  have h : R x k = some (true, r) := h0
  unfold R at h
  split at h
  · simp only [Option.some.injEq, Prod.mk.injEq, true_and] at h
    subst h
    cases hv
    have S0 : @Sim noF [] [] w := @Sim.mk noF [] [] w rfl List.nodup_nil (fun b hb => by cases hb) (fun l b blk h => by simp at h)
    have A1 : @VRs noF [] [] w [.nils, .int .i64 k] (#[.slice none 0 0, .int .i64 k] : Array Value).toList :=
      @VRs.cons noF _ _ _ _ _ _ _ (@VR.nils noF [] [] w) (@VRs.cons noF _ _ _ _ _ _ _ (@VR.int noF _ _ _ _ _) (@VRs.nil noF _ _ _))
    have hc : ACalls Try.prog 20 _ _ _ _ := markSSn.ok.2 [.nils, .int .i64 k] (.int .i64 k) [] rfl
    refine (@hc noF [] w _ S0 A1).mono fun e w' ⟨c', he', ρ', hv', S', M⟩ => ?_
    subst he'
    cases hv'
    exact ⟨rfl, M.os, M.tape, M.output, M.size, fun y hy hn => (M.frame y hy List.not_mem_nil).1⟩
  · exact mInt64SS.ok.2 x k r h Fb ρ H w c S E hv
end mInt64SSn

end Go.Proofs.Ythecninmmojkgaa.Ab
