/-
  Functions: one thing is parted between two.
-/
import Derived.Test.YtkoongajnnaeoaaFnPC
import Derived.Test.YtkoongajnnaeoaaFnPD
import Derived.Test.YtkoongajnnaeoaaFnPG
import Derived.Test.YtkoongajnnaeoaaFnQD
namespace Go.Proofs.Ytkoongajnnaeoaa.Ab
open Go
set_option linter.unusedVariables false
set_option linter.unusedSimpArgs false
set_option maxRecDepth 100000

namespace so
/-- What comes of the parting: who has what, the thing that is parted, and how. -/
def G (fs ss : List Int) (n : Nat) : Int := bif decide (hf fs ss n < hs fs ss n) then 1 else 0
def fin (G : Int) (ow ot os : List Int) (n : Nat) (h g : Int) : List Int × Int × Int × Int := go G ow ot (sort.sv ow ot (th os G n)) os h g
def res.sv (fs ss : List Int) (n : Nat) : List Int × Int × Int × Int := bif decide (hf fs ss n < hs fs ss n) then fin 1 ss fs (own.sv fs ss n) n (hs fs ss n) (hf fs ss n) else fin 0 fs ss (own.sv fs ss n) n (hf fs ss n) (hs fs ss n)
theorem go_length (G : Int) (ow ot : List Int) : ∀ (l os : List Int) (h g : Int), (go G ow ot l os h g).1.length = os.length
  | [], os, h, g => rfl
  | k :: r, os, h, g => by
    simp only [go]
    cases h - g == 0
    · cases decide (h - g < gz ow k.toNat + gz ot k.toNat)
      · simp only [cond_false]; rw [go_length G ow ot r]; simp
      · rfl
    · rfl
theorem res_length (fs ss : List Int) (n : Nat) : (res.sv fs ss n).1.length = n := by
  unfold res.sv fin
  cases decide (hf fs ss n < hs fs ss n)
  · rw [cond_false, go_length, own_length]
  · rw [cond_true, go_length, own_length]
theorem hf_in {fs ss : List Int} (v : sm.sp fs = true) : ∀ n, 0 ≤ hf fs ss n ∧ hf fs ss n ≤ 1000 * n := by
  intro n
  induction n with
  | zero => simp [hf]
  | succ n ih =>
    have := small v n
    simp only [hf]
    cases decide (gz fs n < gz ss n)
    · simp only [cond_false]; omega
    · simp only [cond_true]; omega
theorem hs_in {fs ss : List Int} (v : sm.sp ss = true) : ∀ n, 0 ≤ hs fs ss n ∧ hs fs ss n ≤ 1000 * n := by
  intro n
  induction n with
  | zero => simp [hs]
  | succ n ih =>
    have := small v n
    simp only [hs]
    cases decide (gz fs n < gz ss n)
    · simp only [cond_false]; omega
    · simp only [cond_true]; omega
theorem th_in (os : List Int) (G : Int) : ∀ n, ∀ x ∈ th os G n, 0 ≤ x ∧ x < (n : Int) := by
  intro n
  induction n with
  | zero => intro x hx; simp [th] at hx
  | succ n ih =>
    intro x hx
    simp only [th] at hx
    cases h : gz os n == G
    · rw [h, cond_false] at hx
      have := ih x hx; omega
    · rw [h, cond_true, List.mem_append, List.mem_singleton] at hx
      rcases hx with hx | hx
      · have := ih x hx; omega
      · omega
theorem th_length (os : List Int) (G : Int) : ∀ n, (th os G n).length ≤ n := by
  intro n
  induction n with
  | zero => simp [th]
  | succ n ih =>
    simp only [th]
    cases gz os n == G
    · simp only [cond_false]; omega
    · simp only [cond_true, List.length_append, List.length_singleton]; omega
theorem sort_in {ow ot l : List Int} {m : Nat} (h : ∀ x ∈ l, 0 ≤ x ∧ x < (m : Int)) : ∀ x ∈ sort.sv ow ot l, 0 ≤ x ∧ x < (m : Int) := by
  intro x hx
  have := sort_mem (ow := ow) (ot := ot) l x
  exact h x (List.count_pos_iff.1 (by have := List.count_pos_iff.2 hx; omega))
theorem in_all {l : List Int} {m : Nat} (h : ∀ x ∈ l, 0 ≤ x ∧ x < (m : Int)) : in.sp m l = true := by
  simp only [in.sp, List.all_eq_true, Bool.and_eq_true, decide_eq_true_eq]
  exact h
def tot.sp (fs ss : List Int) : Bool := (decide (1 ≤ fs.length) && decide (fs.length ≤ 8)) && (decide (ss.length = fs.length) && ((sm.sp fs && sm.sp ss) && (sumOf.sp fs == sumOf.sp ss && sumOf.sp fs != 0)))
end so

namespace iSplitOne
def dr : Nat → Dr := fun i => bif eqN i 4 then ⟨some [997, 5], false⟩ else bif eqN i 19 then ⟨some [998, 0, 1, 2, 3, 4, 5, 6, 7, 8, 9, 10], false⟩ else ⟨none, false⟩
def R : List AVal → Option (Bool × AVal × List Blk)
  | [.ro (.ints .i64 fs) m 1, .ro (.ints .i64 ss) m2 1] => some (decide (m = fs.length ∧ m2 = ss.length) && so.tot.sp fs ss, .tup [.own 0 0 m 0 1, .int .i64 (so.res.sv fs ss m).2.1, .int .i64 (so.res.sv fs ss m).2.2.1, .int .i64 (so.res.sv fs ss m).2.2.2, .bool true], [⟨.typ (.ints .i64 (so.res.sv fs ss m).1), 0⟩])
  | _ => none
def hd : Nat → Head := fun i => bif eqN i 0 then ⟨[998, 0, 1, 10, 11, 12, 56, 57], none⟩ else bif eqN i 2 then ⟨[998, 11, 12, 15, 16, 17, 18, 98, 99, 100], none⟩ else ⟨[999, 11, 12, 15, 16, 17, 116, 117, 118], none⟩
noncomputable def L0 (f n : Nat) (s : State) := loopAt Try.prog (orcW [⟨78, sortP.R⟩] [⟨77, areMany.R⟩, ⟨69, sumOf.R⟩, ⟨81, reduced.R⟩]) hd dr 0 f (bodyOf Try.f22) 0 [true, true, true, true, true, true, false, true] (retK Try.prog [4, 5, 6, 7, 8] 0 none) n s
noncomputable def L2 (f n : Nat) (s : State) := loopAt Try.prog (orcW [⟨78, sortP.R⟩] [⟨77, areMany.R⟩, ⟨69, sumOf.R⟩, ⟨81, reduced.R⟩]) hd dr 0 f (bodyOf Try.f22) 0 [true, true, true, true, true, true, true, true, true, true, true, false, true] (retK Try.prog [4, 5, 6, 7, 8] 0 none) n s
noncomputable def L4 (f n : Nat) (s : State) := loopAt Try.prog (orcW [⟨78, sortP.R⟩] [⟨77, areMany.R⟩, ⟨69, sumOf.R⟩, ⟨81, reduced.R⟩]) hd dr 0 f (bodyOf Try.f22) 0 [true, true, true, true, true, true, true, true, true, true, true, true, true, false, true] (retK Try.prog [4, 5, 6, 7, 8] 0 none) n s
theorem start (fs ss : List Int) (f : Nat) :
  runFn Try.prog (orcW [⟨78, sortP.R⟩] [⟨77, areMany.R⟩, ⟨69, sumOf.R⟩, ⟨81, reduced.R⟩]) hd dr none f (bodyOf Try.f22) 191 [4, 5, 6, 7, 8] [.ro (.ints .i64 fs) fs.length 1, .ro (.ints .i64 ss) ss.length 1] []
  = (bif decide (fs.length ≤ fs.length ∧ fs.length ≤ (4611686018427387904 : Nat)) && (true && true || true && true) then bif !(decide ((1 : Int) ≤ (↑fs.length : Int)) && decide ((↑fs.length : Int) ≤ (8 : Int)) && (List.take fs.length fs).all fun x => decide ((0 : Int) ≤ x) && decide (x ≤ (1000 : Int))) then some (AVal.tup [AVal.nils, AVal.int IntKind.i64 (0 : Int), AVal.int IntKind.i64 (0 : Int), AVal.int IntKind.i64 (0 : Int), AVal.bool false], []) else bif decide (ss.length ≤ ss.length ∧ ss.length ≤ (4611686018427387904 : Nat)) && (true && (true && (true && true)) || true && true) then bif !(decide ((↑fs.length : Int) ≤ (↑ss.length : Int)) && decide ((↑ss.length : Int) ≤ (↑fs.length : Int)) && (List.take ss.length ss).all fun x => decide ((0 : Int) ≤ x) && decide (x ≤ (1000 : Int))) then some (AVal.tup [AVal.nils, AVal.int IntKind.i64 (0 : Int), AVal.int IntKind.i64 (0 : Int), AVal.int IntKind.i64 (0 : Int), AVal.bool false], []) else bif decide (fs.length ≤ fs.length ∧ fs.length ≤ (4611686018427387904 : Nat)) && (true && true || true && true) then bif decide (ss.length ≤ ss.length ∧ ss.length ≤ (4611686018427387904 : Nat)) && (true && true || true && true) then bif sumOf.sp (List.take fs.length fs) != sumOf.sp (List.take ss.length ss) then some (AVal.tup [AVal.nils, AVal.int IntKind.i64 (0 : Int), AVal.int IntKind.i64 (0 : Int), AVal.int IntKind.i64 (0 : Int), AVal.bool false], []) else bif decide (fs.length ≤ fs.length ∧ fs.length ≤ (4611686018427387904 : Nat)) && (true && true || true && true) then bif sumOf.sp (List.take fs.length fs) == (0 : Int) then some (AVal.tup [AVal.nils, AVal.int IntKind.i64 (0 : Int), AVal.int IntKind.i64 (0 : Int), AVal.int IntKind.i64 (0 : Int), AVal.bool false], []) else L0 f f (mkS (191 : Nat) [((0 : Nat), AVal.ro (Cont.ints IntKind.i64 fs) fs.length (1 : Nat)), ((1 : Nat), AVal.ro (Cont.ints IntKind.i64 ss) ss.length (1 : Nat)), ((10 : Nat), AVal.rom [AVal.ro (Cont.ints IntKind.i64 fs) fs.length (1 : Nat), AVal.ro (Cont.ints IntKind.i64 ss) ss.length (1 : Nat)] (0 : Nat)), ((11 : Nat), AVal.own (0 : Nat) (0 : Nat) (0 : Nat) (0 : Nat) (1 : Nat)), ((12 : Nat), AVal.ptr (1 : Nat) (0 : Nat) (0 : Nat)), ((56 : Nat), AVal.int IntKind.i64 (↑fs.length : Int)), ((57 : Nat), AVal.int IntKind.i64 (0 : Int))] [{ c := BC.typ (Cont.ints IntKind.i64 (List.replicate (0 : Nat) (0 : Int))), ver := (0 : Nat) }, { c := BC.cells [AVal.int IntKind.i64 (0 : Int), AVal.int IntKind.i64 (0 : Int)], ver := (0 : Nat) }]) else none else none else none else none else none) := by kernel_rfl
theorem round0 (fs ss : List Int) (os : List Int) (q : Nat) (h0 h1 n : Int) (i f k : Nat) :
  L0 f (k + 1) (mkS 191 [(0, .ro (.ints .i64 fs) fs.length 1), (1, .ro (.ints .i64 ss) ss.length 1), (10, .rom [.ro (.ints .i64 fs) fs.length 1, .ro (.ints .i64 ss) ss.length 1] 0), (11, .own 0 0 q 0 1), (12, .ptr 1 0 0), (56, .int .i64 n), (57, .int .i64 i)] [⟨.typ (.ints .i64 os), 0⟩, ⟨.cells [.int .i64 h0, .int .i64 h1], 0⟩])
  = (bif decide ((↑i : Int) < n) then bif true && (decide ((0 : Int) ≤ (↑i : Int)) && decide ((↑i : Int) < (↑fs.length : Int))) then bif decide ((↑i : Int).toNat < fs.length) then bif true && (decide ((0 : Int) ≤ (↑i : Int)) && decide ((↑i : Int) < (↑ss.length : Int))) then bif decide ((↑i : Int).toNat < ss.length) then bif decide (gz fs (↑i : Int).toNat < gz ss (↑i : Int).toNat) then bif (1 : Nat) == (1 : Nat) && (1 : Nat) == (1 : Nat) && (true && (true && true) && (true && true && (decide (q + (1 : Nat) ≤ (4611686018427387904 : Nat)) && decide ((q + (1 : Nat)) * (8 : Nat) ≤ (140737488355328 : Nat))))) then bif true && true then bif true && (decide ((0 : Int) ≤ (↑i : Int)) && decide ((↑i : Int) < (↑ss.length : Int))) then bif decide ((↑i : Int).toNat < ss.length) then L0 f k (mkS (191 : Nat) [((0 : Nat), AVal.ro (Cont.ints IntKind.i64 fs) fs.length (1 : Nat)), ((1 : Nat), AVal.ro (Cont.ints IntKind.i64 ss) ss.length (1 : Nat)), ((10 : Nat), AVal.rom [AVal.ro (Cont.ints IntKind.i64 fs) fs.length (1 : Nat), AVal.ro (Cont.ints IntKind.i64 ss) ss.length (1 : Nat)] (0 : Nat)), ((11 : Nat), AVal.own (0 : Nat) (0 : Nat) (q + (1 : Nat)) (0 : Nat) (1 : Nat)), ((12 : Nat), AVal.ptr (1 : Nat) (0 : Nat) (0 : Nat)), ((56 : Nat), AVal.int IntKind.i64 n), ((57 : Nat), AVal.int IntKind.i64 (IntKind.i64.wrap ((↑i : Int) + (1 : Int))))] [{ c := BC.typ (Cont.ints IntKind.i64 (List.take q os ++ List.take (1 : Nat) (List.drop (0 : Nat) ((List.replicate (1 : Nat) (0 : Int)).set (0 : Nat) (1 : Int))))), ver := (0 : Nat) }, { c := BC.cells [AVal.int IntKind.i64 h0, AVal.int IntKind.i64 (IntKind.i64.wrap (h1 + gz ss (↑i : Int).toNat))], ver := (0 : Nat) }]) else none else none else none else none else bif (1 : Nat) == (1 : Nat) && (1 : Nat) == (1 : Nat) && (true && (true && true) && (true && true && (decide (q + (1 : Nat) ≤ (4611686018427387904 : Nat)) && decide ((q + (1 : Nat)) * (8 : Nat) ≤ (140737488355328 : Nat))))) then bif true && true then bif true && (decide ((0 : Int) ≤ (↑i : Int)) && decide ((↑i : Int) < (↑fs.length : Int))) then bif decide ((↑i : Int).toNat < fs.length) then L0 f k (mkS (191 : Nat) [((0 : Nat), AVal.ro (Cont.ints IntKind.i64 fs) fs.length (1 : Nat)), ((1 : Nat), AVal.ro (Cont.ints IntKind.i64 ss) ss.length (1 : Nat)), ((10 : Nat), AVal.rom [AVal.ro (Cont.ints IntKind.i64 fs) fs.length (1 : Nat), AVal.ro (Cont.ints IntKind.i64 ss) ss.length (1 : Nat)] (0 : Nat)), ((11 : Nat), AVal.own (0 : Nat) (0 : Nat) (q + (1 : Nat)) (0 : Nat) (1 : Nat)), ((12 : Nat), AVal.ptr (1 : Nat) (0 : Nat) (0 : Nat)), ((56 : Nat), AVal.int IntKind.i64 n), ((57 : Nat), AVal.int IntKind.i64 (IntKind.i64.wrap ((↑i : Int) + (1 : Int))))] [{ c := BC.typ (Cont.ints IntKind.i64 (List.take q os ++ List.take (1 : Nat) (List.drop (0 : Nat) ((List.replicate (1 : Nat) (0 : Int)).set (0 : Nat) (0 : Int))))), ver := (0 : Nat) }, { c := BC.cells [AVal.int IntKind.i64 (IntKind.i64.wrap (h0 + gz fs (↑i : Int).toNat)), AVal.int IntKind.i64 h1], ver := (0 : Nat) }]) else none else none else none else none else none else none else none else none else bif true && true then bif true && true then bif decide (h0 < h1) then L2 f f (mkS (191 : Nat) [((11 : Nat), AVal.own (0 : Nat) (0 : Nat) q (0 : Nat) (1 : Nat)), ((12 : Nat), AVal.ptr (1 : Nat) (0 : Nat) (0 : Nat)), ((15 : Nat), AVal.int IntKind.i64 (1 : Int)), ((16 : Nat), AVal.ptr (2 : Nat) (0 : Nat) (0 : Nat)), ((17 : Nat), AVal.ptr (3 : Nat) (0 : Nat) (0 : Nat)), ((18 : Nat), AVal.own (4 : Nat) (0 : Nat) (0 : Nat) (0 : Nat) (1 : Nat)), ((98 : Nat), AVal.own (0 : Nat) (0 : Nat) q (0 : Nat) (1 : Nat)), ((99 : Nat), AVal.int IntKind.i64 (↑q : Int)), ((100 : Nat), AVal.int IntKind.i64 (0 : Int))] [{ c := BC.typ (Cont.ints IntKind.i64 os), ver := (0 : Nat) }, { c := BC.cells [AVal.int IntKind.i64 h0, AVal.int IntKind.i64 h1], ver := (0 : Nat) }, { c := BC.cells [AVal.ro (Cont.ints IntKind.i64 ss) ss.length (1 : Nat)], ver := (0 : Nat) }, { c := BC.cells [AVal.ro (Cont.ints IntKind.i64 fs) fs.length (1 : Nat)], ver := (0 : Nat) }, { c := BC.typ (Cont.ints IntKind.i64 (List.replicate (0 : Nat) (0 : Int))), ver := (0 : Nat) }]) else L2 f f (mkS (191 : Nat) [((11 : Nat), AVal.own (0 : Nat) (0 : Nat) q (0 : Nat) (1 : Nat)), ((12 : Nat), AVal.ptr (1 : Nat) (0 : Nat) (0 : Nat)), ((15 : Nat), AVal.int IntKind.i64 (0 : Int)), ((16 : Nat), AVal.ptr (2 : Nat) (0 : Nat) (0 : Nat)), ((17 : Nat), AVal.ptr (3 : Nat) (0 : Nat) (0 : Nat)), ((18 : Nat), AVal.own (4 : Nat) (0 : Nat) (0 : Nat) (0 : Nat) (1 : Nat)), ((98 : Nat), AVal.own (0 : Nat) (0 : Nat) q (0 : Nat) (1 : Nat)), ((99 : Nat), AVal.int IntKind.i64 (↑q : Int)), ((100 : Nat), AVal.int IntKind.i64 (0 : Int))] [{ c := BC.typ (Cont.ints IntKind.i64 os), ver := (0 : Nat) }, { c := BC.cells [AVal.int IntKind.i64 h0, AVal.int IntKind.i64 h1], ver := (0 : Nat) }, { c := BC.cells [AVal.ro (Cont.ints IntKind.i64 fs) fs.length (1 : Nat)], ver := (0 : Nat) }, { c := BC.cells [AVal.ro (Cont.ints IntKind.i64 ss) ss.length (1 : Nat)], ver := (0 : Nat) }, { c := BC.typ (Cont.ints IntKind.i64 (List.replicate (0 : Nat) (0 : Int))), ver := (0 : Nat) }]) else none else none) := by kernel_rfl
theorem round2 (ow ot os th : List Int) (q z : Nat) (h0 h1 n G : Int) (i f k : Nat) :
  L2 f (k + 1) (mkS 191 [(11, .own 0 0 q 0 1), (12, .ptr 1 0 0), (15, .int .i64 G), (16, .ptr 2 0 0), (17, .ptr 3 0 0), (18, .own 4 0 z 0 1), (98, .own 0 0 q 0 1), (99, .int .i64 n), (100, .int .i64 i)] [⟨.typ (.ints .i64 os), 0⟩, ⟨.cells [.int .i64 h0, .int .i64 h1], 0⟩, ⟨.cells [.ro (.ints .i64 ow) ow.length 1], 0⟩, ⟨.cells [.ro (.ints .i64 ot) ot.length 1], 0⟩, ⟨.typ (.ints .i64 th), 0⟩])
  = (bif decide ((↑i : Int) < n) then bif true && (decide ((0 : Int) ≤ (↑i : Int)) && decide ((↑i : Int) < (↑q : Int))) then bif true && decide ((↑i : Int).toNat < os.length) then bif gz os (↑i : Int).toNat == G then bif (1 : Nat) == (1 : Nat) && (1 : Nat) == (1 : Nat) && (true && (true && true) && (true && true && (decide (z + (List.take (1 : Nat) (List.drop (0 : Nat) ((List.replicate (1 : Nat) (0 : Int)).set (0 : Nat) (↑i : Int)))).length ≤ (4611686018427387904 : Nat)) && decide ((z + (List.take (1 : Nat) (List.drop (0 : Nat) ((List.replicate (1 : Nat) (0 : Int)).set (0 : Nat) (↑i : Int)))).length) * (8 : Nat) ≤ (140737488355328 : Nat))))) then L2 f k (mkS (191 : Nat) [((11 : Nat), AVal.own (0 : Nat) (0 : Nat) q (0 : Nat) (1 : Nat)), ((12 : Nat), AVal.ptr (1 : Nat) (0 : Nat) (0 : Nat)), ((15 : Nat), AVal.int IntKind.i64 G), ((16 : Nat), AVal.ptr (2 : Nat) (0 : Nat) (0 : Nat)), ((17 : Nat), AVal.ptr (3 : Nat) (0 : Nat) (0 : Nat)), ((18 : Nat), AVal.own (4 : Nat) (0 : Nat) (z + (List.take (1 : Nat) (List.drop (0 : Nat) ((List.replicate (1 : Nat) (0 : Int)).set (0 : Nat) (↑i : Int)))).length) (0 : Nat) (1 : Nat)), ((98 : Nat), AVal.own (0 : Nat) (0 : Nat) q (0 : Nat) (1 : Nat)), ((99 : Nat), AVal.int IntKind.i64 n), ((100 : Nat), AVal.int IntKind.i64 (IntKind.i64.wrap ((↑i : Int) + (1 : Int))))] [{ c := BC.typ (Cont.ints IntKind.i64 os), ver := (0 : Nat) }, { c := BC.cells [AVal.int IntKind.i64 h0, AVal.int IntKind.i64 h1], ver := (0 : Nat) }, { c := BC.cells [AVal.ro (Cont.ints IntKind.i64 ow) ow.length (1 : Nat)], ver := (0 : Nat) }, { c := BC.cells [AVal.ro (Cont.ints IntKind.i64 ot) ot.length (1 : Nat)], ver := (0 : Nat) }, { c := BC.typ (Cont.ints IntKind.i64 (List.take z th ++ List.take (1 : Nat) (List.drop (0 : Nat) ((List.replicate (1 : Nat) (0 : Int)).set (0 : Nat) (↑i : Int))))), ver := (0 : Nat) }]) else none else L2 f k (mkS (191 : Nat) [((11 : Nat), AVal.own (0 : Nat) (0 : Nat) q (0 : Nat) (1 : Nat)), ((12 : Nat), AVal.ptr (1 : Nat) (0 : Nat) (0 : Nat)), ((15 : Nat), AVal.int IntKind.i64 G), ((16 : Nat), AVal.ptr (2 : Nat) (0 : Nat) (0 : Nat)), ((17 : Nat), AVal.ptr (3 : Nat) (0 : Nat) (0 : Nat)), ((18 : Nat), AVal.own (4 : Nat) (0 : Nat) z (0 : Nat) (1 : Nat)), ((98 : Nat), AVal.own (0 : Nat) (0 : Nat) q (0 : Nat) (1 : Nat)), ((99 : Nat), AVal.int IntKind.i64 n), ((100 : Nat), AVal.int IntKind.i64 (IntKind.i64.wrap ((↑i : Int) + (1 : Int))))] [{ c := BC.typ (Cont.ints IntKind.i64 os), ver := (0 : Nat) }, { c := BC.cells [AVal.int IntKind.i64 h0, AVal.int IntKind.i64 h1], ver := (0 : Nat) }, { c := BC.cells [AVal.ro (Cont.ints IntKind.i64 ow) ow.length (1 : Nat)], ver := (0 : Nat) }, { c := BC.cells [AVal.ro (Cont.ints IntKind.i64 ot) ot.length (1 : Nat)], ver := (0 : Nat) }, { c := BC.typ (Cont.ints IntKind.i64 th), ver := (0 : Nat) }]) else none else none else bif decide (ot.length = ot.length ∧ ow.length = ow.length ∧ ow.length = ot.length ∧ z = th.length ∧ z ≤ (16 : Nat) ∧ (79 : Nat) = (79 : FuncId)) && (so.sm.sp ow && (so.sm.sp ot && so.in.sp ot.length th)) && (true && (true && (true && (true && true)))) then L4 f f (mkS (191 : Nat) [((11 : Nat), AVal.own (0 : Nat) (0 : Nat) q (0 : Nat) (1 : Nat)), ((12 : Nat), AVal.ptr (1 : Nat) (0 : Nat) (0 : Nat)), ((15 : Nat), AVal.int IntKind.i64 G), ((16 : Nat), AVal.ptr (2 : Nat) (0 : Nat) (0 : Nat)), ((17 : Nat), AVal.ptr (3 : Nat) (0 : Nat) (0 : Nat)), ((116 : Nat), AVal.own (4 : Nat) (0 : Nat) z (0 : Nat) (1 : Nat)), ((117 : Nat), AVal.int IntKind.i64 (↑z : Int)), ((118 : Nat), AVal.int IntKind.i64 (0 : Int))] [{ c := BC.typ (Cont.ints IntKind.i64 os), ver := (0 : Nat) }, { c := BC.cells [AVal.int IntKind.i64 h0, AVal.int IntKind.i64 h1], ver := (0 : Nat) }, { c := BC.cells [AVal.ro (Cont.ints IntKind.i64 ow) ow.length (1 : Nat)], ver := (0 : Nat) }, { c := BC.cells [AVal.ro (Cont.ints IntKind.i64 ot) ot.length (1 : Nat)], ver := (0 : Nat) }, { c := BC.typ (Cont.ints IntKind.i64 (so.sort.sv ow ot th)), ver := (0 : Nat) }]) else none) := by kernel_rfl
theorem roundA (ow ot os th : List Int) (q z : Nat) (h0 h1 : Int) (n i f k : Nat) :
  L4 f (k + 1) (mkS 191 [(11, .own 0 0 q 0 1), (12, .ptr 1 0 0), (15, .int .i64 0), (16, .ptr 2 0 0), (17, .ptr 3 0 0), (116, .own 4 0 z 0 1), (117, .int .i64 n), (118, .int .i64 i)] [⟨.typ (.ints .i64 os), 0⟩, ⟨.cells [.int .i64 h0, .int .i64 h1], 0⟩, ⟨.cells [.ro (.ints .i64 ow) ow.length 1], 0⟩, ⟨.cells [.ro (.ints .i64 ot) ot.length 1], 0⟩, ⟨.typ (.ints .i64 th), 0⟩])
  = (bif decide ((↑i : Int) < (↑n : Int)) then bif true && (decide ((0 : Int) ≤ (↑i : Int)) && decide ((↑i : Int) < (↑z : Int))) then bif true && decide ((↑i : Int).toNat < th.length) then bif true && true then bif true && true then bif IntKind.i64.wrap (h0 - h1) == (0 : Int) then some (AVal.tup [AVal.own (0 : Nat) (0 : Nat) q (0 : Nat) (1 : Nat), AVal.int IntKind.i64 (-1 : Int), AVal.int IntKind.i64 (0 : Int), AVal.int IntKind.i64 (1 : Int), AVal.bool true], [{ c := BC.typ (Cont.ints IntKind.i64 os), ver := (0 : Nat) }, { c := BC.cells [AVal.int IntKind.i64 h0, AVal.int IntKind.i64 h1], ver := (0 : Nat) }, { c := BC.cells [AVal.ro (Cont.ints IntKind.i64 ow) ow.length (1 : Nat)], ver := (0 : Nat) }, { c := BC.cells [AVal.ro (Cont.ints IntKind.i64 ot) ot.length (1 : Nat)], ver := (0 : Nat) }, { c := BC.typ (Cont.ints IntKind.i64 th), ver := (0 : Nat) }]) else bif true && true then bif true && (decide ((0 : Int) ≤ gz th (↑i : Int).toNat) && decide (gz th (↑i : Int).toNat < (↑ow.length : Int))) then bif decide ((gz th (↑i : Int).toNat).toNat < ow.length) then bif true && true then bif true && (decide ((0 : Int) ≤ gz th (↑i : Int).toNat) && decide (gz th (↑i : Int).toNat < (↑ot.length : Int))) then bif decide ((gz th (↑i : Int).toNat).toNat < ot.length) then bif decide (IntKind.i64.wrap (h0 - h1) < IntKind.i64.wrap (gz ow (gz th (↑i : Int).toNat).toNat + gz ot (gz th (↑i : Int).toNat).toNat)) then bif true && true then bif true && (decide ((0 : Int) ≤ gz th (↑i : Int).toNat) && decide (gz th (↑i : Int).toNat < (↑ow.length : Int))) then bif decide ((gz th (↑i : Int).toNat).toNat < ow.length) then bif true && true then bif true && (decide ((0 : Int) ≤ gz th (↑i : Int).toNat) && decide (gz th (↑i : Int).toNat < (↑ot.length : Int))) then bif decide ((gz th (↑i : Int).toNat).toNat < ot.length) then bif decide ((-5000 : Int) ≤ IntKind.i64.wrap (h0 - h1) ∧ IntKind.i64.wrap (h0 - h1) ≤ (5000 : Int) ∧ (-5000 : Int) ≤ IntKind.i64.wrap (gz ow (gz th (↑i : Int).toNat).toNat + gz ot (gz th (↑i : Int).toNat).toNat) ∧ IntKind.i64.wrap (gz ow (gz th (↑i : Int).toNat).toNat + gz ot (gz th (↑i : Int).toNat).toNat) ≤ (5000 : Int)) && (true && (true && true) || true && (true && (true && true)) && true) then some (AVal.tup [AVal.own (0 : Nat) (0 : Nat) q (0 : Nat) (1 : Nat), AVal.int IntKind.i64 (gz th (↑i : Int).toNat), AVal.int IntKind.i64 (rd.p.sv (IntKind.i64.wrap (h0 - h1)) (IntKind.i64.wrap (gz ow (gz th (↑i : Int).toNat).toNat + gz ot (gz th (↑i : Int).toNat).toNat))), AVal.int IntKind.i64 (rd.q.sv (IntKind.i64.wrap (h0 - h1)) (IntKind.i64.wrap (gz ow (gz th (↑i : Int).toNat).toNat + gz ot (gz th (↑i : Int).toNat).toNat))), AVal.bool true], [{ c := BC.typ (Cont.ints IntKind.i64 os), ver := (0 : Nat) }, { c := BC.cells [AVal.int IntKind.i64 h0, AVal.int IntKind.i64 h1], ver := (0 : Nat) }, { c := BC.cells [AVal.ro (Cont.ints IntKind.i64 ow) ow.length (1 : Nat)], ver := (0 : Nat) }, { c := BC.cells [AVal.ro (Cont.ints IntKind.i64 ot) ot.length (1 : Nat)], ver := (0 : Nat) }, { c := BC.typ (Cont.ints IntKind.i64 th), ver := (0 : Nat) }]) else none else none else none else none else none else none else none else bif true && (decide ((0 : Int) ≤ gz th (↑i : Int).toNat) && decide (gz th (↑i : Int).toNat < (↑q : Int))) then bif true && (true && (decide ((gz th (↑i : Int).toNat).toNat < os.length) && true)) then bif true && true then bif true && true then bif true && (decide ((0 : Int) ≤ gz th (↑i : Int).toNat) && decide (gz th (↑i : Int).toNat < (↑ow.length : Int))) then bif decide ((gz th (↑i : Int).toNat).toNat < ow.length) then bif true && true then bif true && true then bif true && (decide ((0 : Int) ≤ gz th (↑i : Int).toNat) && decide (gz th (↑i : Int).toNat < (↑ot.length : Int))) then bif decide ((gz th (↑i : Int).toNat).toNat < ot.length) then L4 f k (mkS (191 : Nat) [((11 : Nat), AVal.own (0 : Nat) (0 : Nat) q (0 : Nat) (1 : Nat)), ((12 : Nat), AVal.ptr (1 : Nat) (0 : Nat) (0 : Nat)), ((15 : Nat), AVal.int IntKind.i64 (0 : Int)), ((16 : Nat), AVal.ptr (2 : Nat) (0 : Nat) (0 : Nat)), ((17 : Nat), AVal.ptr (3 : Nat) (0 : Nat) (0 : Nat)), ((116 : Nat), AVal.own (4 : Nat) (0 : Nat) z (0 : Nat) (1 : Nat)), ((117 : Nat), AVal.int IntKind.i64 (↑n : Int)), ((118 : Nat), AVal.int IntKind.i64 (IntKind.i64.wrap ((↑i : Int) + (1 : Int))))] [{ c := BC.typ (Cont.ints IntKind.i64 (os.set (gz th (↑i : Int).toNat).toNat (1 : Int))), ver := (0 : Nat) }, { c := BC.cells [AVal.int IntKind.i64 (IntKind.i64.wrap (h0 - gz ow (gz th (↑i : Int).toNat).toNat)), AVal.int IntKind.i64 (IntKind.i64.wrap (h1 + gz ot (gz th (↑i : Int).toNat).toNat))], ver := (0 : Nat) }, { c := BC.cells [AVal.ro (Cont.ints IntKind.i64 ow) ow.length (1 : Nat)], ver := (0 : Nat) }, { c := BC.cells [AVal.ro (Cont.ints IntKind.i64 ot) ot.length (1 : Nat)], ver := (0 : Nat) }, { c := BC.typ (Cont.ints IntKind.i64 th), ver := (0 : Nat) }]) else none else none else none else none else none else none else none else none else none else none else none else none else none else none else none else none else none else none else none else none else some (AVal.tup [AVal.own (0 : Nat) (0 : Nat) q (0 : Nat) (1 : Nat), AVal.int IntKind.i64 (-1 : Int), AVal.int IntKind.i64 (0 : Int), AVal.int IntKind.i64 (1 : Int), AVal.bool true], [{ c := BC.typ (Cont.ints IntKind.i64 os), ver := (0 : Nat) }, { c := BC.cells [AVal.int IntKind.i64 h0, AVal.int IntKind.i64 h1], ver := (0 : Nat) }, { c := BC.cells [AVal.ro (Cont.ints IntKind.i64 ow) ow.length (1 : Nat)], ver := (0 : Nat) }, { c := BC.cells [AVal.ro (Cont.ints IntKind.i64 ot) ot.length (1 : Nat)], ver := (0 : Nat) }, { c := BC.typ (Cont.ints IntKind.i64 th), ver := (0 : Nat) }])) := by kernel_rfl
theorem roundB (ow ot os th : List Int) (q z : Nat) (h0 h1 : Int) (n i f k : Nat) :
  L4 f (k + 1) (mkS 191 [(11, .own 0 0 q 0 1), (12, .ptr 1 0 0), (15, .int .i64 1), (16, .ptr 2 0 0), (17, .ptr 3 0 0), (116, .own 4 0 z 0 1), (117, .int .i64 n), (118, .int .i64 i)] [⟨.typ (.ints .i64 os), 0⟩, ⟨.cells [.int .i64 h0, .int .i64 h1], 0⟩, ⟨.cells [.ro (.ints .i64 ow) ow.length 1], 0⟩, ⟨.cells [.ro (.ints .i64 ot) ot.length 1], 0⟩, ⟨.typ (.ints .i64 th), 0⟩])
  = (bif decide ((↑i : Int) < (↑n : Int)) then bif true && (decide ((0 : Int) ≤ (↑i : Int)) && decide ((↑i : Int) < (↑z : Int))) then bif true && decide ((↑i : Int).toNat < th.length) then bif true && true then bif true && true then bif IntKind.i64.wrap (h1 - h0) == (0 : Int) then some (AVal.tup [AVal.own (0 : Nat) (0 : Nat) q (0 : Nat) (1 : Nat), AVal.int IntKind.i64 (-1 : Int), AVal.int IntKind.i64 (0 : Int), AVal.int IntKind.i64 (1 : Int), AVal.bool true], [{ c := BC.typ (Cont.ints IntKind.i64 os), ver := (0 : Nat) }, { c := BC.cells [AVal.int IntKind.i64 h0, AVal.int IntKind.i64 h1], ver := (0 : Nat) }, { c := BC.cells [AVal.ro (Cont.ints IntKind.i64 ow) ow.length (1 : Nat)], ver := (0 : Nat) }, { c := BC.cells [AVal.ro (Cont.ints IntKind.i64 ot) ot.length (1 : Nat)], ver := (0 : Nat) }, { c := BC.typ (Cont.ints IntKind.i64 th), ver := (0 : Nat) }]) else bif true && true then bif true && (decide ((0 : Int) ≤ gz th (↑i : Int).toNat) && decide (gz th (↑i : Int).toNat < (↑ow.length : Int))) then bif decide ((gz th (↑i : Int).toNat).toNat < ow.length) then bif true && true then bif true && (decide ((0 : Int) ≤ gz th (↑i : Int).toNat) && decide (gz th (↑i : Int).toNat < (↑ot.length : Int))) then bif decide ((gz th (↑i : Int).toNat).toNat < ot.length) then bif decide (IntKind.i64.wrap (h1 - h0) < IntKind.i64.wrap (gz ow (gz th (↑i : Int).toNat).toNat + gz ot (gz th (↑i : Int).toNat).toNat)) then bif true && true then bif true && (decide ((0 : Int) ≤ gz th (↑i : Int).toNat) && decide (gz th (↑i : Int).toNat < (↑ow.length : Int))) then bif decide ((gz th (↑i : Int).toNat).toNat < ow.length) then bif true && true then bif true && (decide ((0 : Int) ≤ gz th (↑i : Int).toNat) && decide (gz th (↑i : Int).toNat < (↑ot.length : Int))) then bif decide ((gz th (↑i : Int).toNat).toNat < ot.length) then bif decide ((-5000 : Int) ≤ IntKind.i64.wrap (h1 - h0) ∧ IntKind.i64.wrap (h1 - h0) ≤ (5000 : Int) ∧ (-5000 : Int) ≤ IntKind.i64.wrap (gz ow (gz th (↑i : Int).toNat).toNat + gz ot (gz th (↑i : Int).toNat).toNat) ∧ IntKind.i64.wrap (gz ow (gz th (↑i : Int).toNat).toNat + gz ot (gz th (↑i : Int).toNat).toNat) ≤ (5000 : Int)) && (true && (true && true) || true && (true && (true && true)) && true) then some (AVal.tup [AVal.own (0 : Nat) (0 : Nat) q (0 : Nat) (1 : Nat), AVal.int IntKind.i64 (gz th (↑i : Int).toNat), AVal.int IntKind.i64 (rd.p.sv (IntKind.i64.wrap (h1 - h0)) (IntKind.i64.wrap (gz ow (gz th (↑i : Int).toNat).toNat + gz ot (gz th (↑i : Int).toNat).toNat))), AVal.int IntKind.i64 (rd.q.sv (IntKind.i64.wrap (h1 - h0)) (IntKind.i64.wrap (gz ow (gz th (↑i : Int).toNat).toNat + gz ot (gz th (↑i : Int).toNat).toNat))), AVal.bool true], [{ c := BC.typ (Cont.ints IntKind.i64 os), ver := (0 : Nat) }, { c := BC.cells [AVal.int IntKind.i64 h0, AVal.int IntKind.i64 h1], ver := (0 : Nat) }, { c := BC.cells [AVal.ro (Cont.ints IntKind.i64 ow) ow.length (1 : Nat)], ver := (0 : Nat) }, { c := BC.cells [AVal.ro (Cont.ints IntKind.i64 ot) ot.length (1 : Nat)], ver := (0 : Nat) }, { c := BC.typ (Cont.ints IntKind.i64 th), ver := (0 : Nat) }]) else none else none else none else none else none else none else none else bif true && (decide ((0 : Int) ≤ gz th (↑i : Int).toNat) && decide (gz th (↑i : Int).toNat < (↑q : Int))) then bif true && (true && (decide ((gz th (↑i : Int).toNat).toNat < os.length) && true)) then bif true && true then bif true && true then bif true && (decide ((0 : Int) ≤ gz th (↑i : Int).toNat) && decide (gz th (↑i : Int).toNat < (↑ow.length : Int))) then bif decide ((gz th (↑i : Int).toNat).toNat < ow.length) then bif true && true then bif true && true then bif true && (decide ((0 : Int) ≤ gz th (↑i : Int).toNat) && decide (gz th (↑i : Int).toNat < (↑ot.length : Int))) then bif decide ((gz th (↑i : Int).toNat).toNat < ot.length) then L4 f k (mkS (191 : Nat) [((11 : Nat), AVal.own (0 : Nat) (0 : Nat) q (0 : Nat) (1 : Nat)), ((12 : Nat), AVal.ptr (1 : Nat) (0 : Nat) (0 : Nat)), ((15 : Nat), AVal.int IntKind.i64 (1 : Int)), ((16 : Nat), AVal.ptr (2 : Nat) (0 : Nat) (0 : Nat)), ((17 : Nat), AVal.ptr (3 : Nat) (0 : Nat) (0 : Nat)), ((116 : Nat), AVal.own (4 : Nat) (0 : Nat) z (0 : Nat) (1 : Nat)), ((117 : Nat), AVal.int IntKind.i64 (↑n : Int)), ((118 : Nat), AVal.int IntKind.i64 (IntKind.i64.wrap ((↑i : Int) + (1 : Int))))] [{ c := BC.typ (Cont.ints IntKind.i64 (os.set (gz th (↑i : Int).toNat).toNat (0 : Int))), ver := (0 : Nat) }, { c := BC.cells [AVal.int IntKind.i64 (IntKind.i64.wrap (h0 + gz ot (gz th (↑i : Int).toNat).toNat)), AVal.int IntKind.i64 (IntKind.i64.wrap (h1 - gz ow (gz th (↑i : Int).toNat).toNat))], ver := (0 : Nat) }, { c := BC.cells [AVal.ro (Cont.ints IntKind.i64 ow) ow.length (1 : Nat)], ver := (0 : Nat) }, { c := BC.cells [AVal.ro (Cont.ints IntKind.i64 ot) ot.length (1 : Nat)], ver := (0 : Nat) }, { c := BC.typ (Cont.ints IntKind.i64 th), ver := (0 : Nat) }]) else none else none else none else none else none else none else none else none else none else none else none else none else none else none else none else none else none else none else none else none else some (AVal.tup [AVal.own (0 : Nat) (0 : Nat) q (0 : Nat) (1 : Nat), AVal.int IntKind.i64 (-1 : Int), AVal.int IntKind.i64 (0 : Int), AVal.int IntKind.i64 (1 : Int), AVal.bool true], [{ c := BC.typ (Cont.ints IntKind.i64 os), ver := (0 : Nat) }, { c := BC.cells [AVal.int IntKind.i64 h0, AVal.int IntKind.i64 h1], ver := (0 : Nat) }, { c := BC.cells [AVal.ro (Cont.ints IntKind.i64 ow) ow.length (1 : Nat)], ver := (0 : Nat) }, { c := BC.cells [AVal.ro (Cont.ints IntKind.i64 ot) ot.length (1 : Nat)], ver := (0 : Nat) }, { c := BC.typ (Cont.ints IntKind.i64 th), ver := (0 : Nat) }])) := by kernel_rfl
theorem loopA (ow ot th : List Int) (n f : Nat) (h1' : ow.length = n) (h2' : ot.length = n) (hw : so.sm.sp ow = true) (hv : so.sm.sp ot = true) (hn : n ≤ 8) (hl : th.length ≤ 8) (ht : ∀ x ∈ th, 0 ≤ x ∧ x < (n : Int)) : ∀ (d i k : Nat) (os : List Int) (h0 h1 : Int), os.length = n → i + d = th.length → d < k → 0 ≤ h1 → h1 ≤ h0 → h0 ≤ 100000 →
    ∃ a b, L4 f k (mkS 191 [(11, .own 0 0 n 0 1), (12, .ptr 1 0 0), (15, .int .i64 0), (16, .ptr 2 0 0), (17, .ptr 3 0 0), (116, .own 4 0 th.length 0 1), (117, .int .i64 ((th.length : Nat) : Int)), (118, .int .i64 ((i : Nat) : Int))] [⟨.typ (.ints .i64 os), 0⟩, ⟨.cells [.int .i64 h0, .int .i64 h1], 0⟩, ⟨.cells [.ro (.ints .i64 ow) ow.length 1], 0⟩, ⟨.cells [.ro (.ints .i64 ot) ot.length 1], 0⟩, ⟨.typ (.ints .i64 th), 0⟩]) = some (.tup [.own 0 0 n 0 1, .int .i64 (so.go 0 ow ot (th.drop i) os h0 h1).2.1, .int .i64 (so.go 0 ow ot (th.drop i) os h0 h1).2.2.1, .int .i64 (so.go 0 ow ot (th.drop i) os h0 h1).2.2.2, .bool true], [⟨.typ (.ints .i64 (so.go 0 ow ot (th.drop i) os h0 h1).1), 0⟩, ⟨.cells [.int .i64 a, .int .i64 b], 0⟩, ⟨.cells [.ro (.ints .i64 ow) ow.length 1], 0⟩, ⟨.cells [.ro (.ints .i64 ot) ot.length 1], 0⟩, ⟨.typ (.ints .i64 th), 0⟩]) := by
  intro d
  induction d with
  | zero =>
    intro i k os h0 h1 ho hi hk b1 b2 b3
    obtain ⟨k, rfl⟩ : ∃ q, k = q + 1 := ⟨k - 1, by omega⟩
    refine ⟨h0, h1, ?_⟩
    rw [List.drop_of_length_le (by omega), so.go, roundA]
    simp -implicitDefEqProofs (disch := omega) only [take_one, set_one, decide_eq_true, decide_eq_false, IntWalk.i64_in, beqT, beqF, bneT, bneF, nat_succ, ← Int.natCast_mul, ← Int.natCast_add, Int.toNat_natCast, Int.zero_mul, Int.zero_add, Int.add_zero, Nat.zero_add, Nat.add_zero, Nat.zero_mul, List.length_singleton, List.length_append, List.length_nil, List.length_cons, List.take_length, List.drop_zero, List.replicate_zero, List.take_nil, List.nil_append, Nat.reduceBEq, Nat.reduceMul, Nat.reduceLeDiff, eq_self, and_self, true_and, and_true, decide_true, decide_false, Bool.and_self, Bool.or_self, Bool.and_true, Bool.true_and, Bool.and_false, Bool.false_and, Bool.or_true, Bool.true_or, Bool.or_false, Bool.false_or, Bool.not_true, Bool.not_false, cond_true, cond_false]
  | succ d ih =>
    intro i k os h0 h1 ho hi hk b1 b2 b3
    obtain ⟨k, rfl⟩ : ∃ q, k = q + 1 := ⟨k - 1, by omega⟩
    have hil : i < th.length := by omega
    have hx := ht _ (gz_mem hil)
    have dc : th.drop i = gz th i :: th.drop (i + 1) := by rw [List.drop_eq_getElem_cons hil, gz_eq hil]
    have w1 := so.small hw (gz th i).toNat
    have v1 := so.small hv (gz th i).toNat
    rw [dc, roundA]
    simp only [so.go]
    by_cases c0 : h0 - h1 = 0
    · have e : (h0 - h1 == 0) = true := by simpa using c0
      refine ⟨h0, h1, ?_⟩
      simp -implicitDefEqProofs (disch := omega) only [e, take_one, set_one, decide_eq_true, decide_eq_false, IntWalk.i64_in, beqT, beqF, bneT, bneF, nat_succ, ← Int.natCast_mul, ← Int.natCast_add, Int.toNat_natCast, Int.zero_mul, Int.zero_add, Int.add_zero, Nat.zero_add, Nat.add_zero, Nat.zero_mul, List.length_singleton, List.length_append, List.length_nil, List.length_cons, List.take_length, List.drop_zero, List.replicate_zero, List.take_nil, List.nil_append, Nat.reduceBEq, Nat.reduceMul, Nat.reduceLeDiff, eq_self, and_self, true_and, and_true, decide_true, decide_false, Bool.and_self, Bool.or_self, Bool.and_true, Bool.true_and, Bool.and_false, Bool.false_and, Bool.or_true, Bool.true_or, Bool.or_false, Bool.false_or, Bool.not_true, Bool.not_false, cond_true, cond_false]
    · have e : (h0 - h1 == 0) = false := by simpa using c0
      by_cases c1 : h0 - h1 < gz ow (gz th i).toNat + gz ot (gz th i).toNat
      · refine ⟨h0, h1, ?_⟩
        simp -implicitDefEqProofs (disch := omega) only [e, take_one, set_one, decide_eq_true, decide_eq_false, IntWalk.i64_in, beqT, beqF, bneT, bneF, nat_succ, ← Int.natCast_mul, ← Int.natCast_add, Int.toNat_natCast, Int.zero_mul, Int.zero_add, Int.add_zero, Nat.zero_add, Nat.add_zero, Nat.zero_mul, List.length_singleton, List.length_append, List.length_nil, List.length_cons, List.take_length, List.drop_zero, List.replicate_zero, List.take_nil, List.nil_append, Nat.reduceBEq, Nat.reduceMul, Nat.reduceLeDiff, eq_self, and_self, true_and, and_true, decide_true, decide_false, Bool.and_self, Bool.or_self, Bool.and_true, Bool.true_and, Bool.and_false, Bool.false_and, Bool.or_true, Bool.true_or, Bool.or_false, Bool.false_or, Bool.not_true, Bool.not_false, cond_true, cond_false]
      · obtain ⟨a, b, g⟩ := ih (i + 1) k (os.set (gz th i).toNat 1) (h0 - gz ow (gz th i).toNat) (h1 + gz ot (gz th i).toNat) (by rw [List.length_set]; exact ho) (by omega) (by omega) (by omega) (by omega) (by omega)
        refine ⟨a, b, ?_⟩
        simp -implicitDefEqProofs (disch := omega) only [e, take_one, set_one, decide_eq_true, decide_eq_false, IntWalk.i64_in, beqT, beqF, bneT, bneF, nat_succ, ← Int.natCast_mul, ← Int.natCast_add, Int.toNat_natCast, Int.zero_mul, Int.zero_add, Int.add_zero, Nat.zero_add, Nat.add_zero, Nat.zero_mul, List.length_singleton, List.length_append, List.length_nil, List.length_cons, List.take_length, List.drop_zero, List.replicate_zero, List.take_nil, List.nil_append, Nat.reduceBEq, Nat.reduceMul, Nat.reduceLeDiff, eq_self, and_self, true_and, and_true, decide_true, decide_false, Bool.and_self, Bool.or_self, Bool.and_true, Bool.true_and, Bool.and_false, Bool.false_and, Bool.or_true, Bool.true_or, Bool.or_false, Bool.false_or, Bool.not_true, Bool.not_false, cond_true, cond_false]
        exact g
theorem loopB (ow ot th : List Int) (n f : Nat) (h1' : ow.length = n) (h2' : ot.length = n) (hw : so.sm.sp ow = true) (hv : so.sm.sp ot = true) (hn : n ≤ 8) (hl : th.length ≤ 8) (ht : ∀ x ∈ th, 0 ≤ x ∧ x < (n : Int)) : ∀ (d i k : Nat) (os : List Int) (h0 h1 : Int), os.length = n → i + d = th.length → d < k → 0 ≤ h0 → h0 ≤ h1 → h1 ≤ 100000 →
    ∃ a b, L4 f k (mkS 191 [(11, .own 0 0 n 0 1), (12, .ptr 1 0 0), (15, .int .i64 1), (16, .ptr 2 0 0), (17, .ptr 3 0 0), (116, .own 4 0 th.length 0 1), (117, .int .i64 ((th.length : Nat) : Int)), (118, .int .i64 ((i : Nat) : Int))] [⟨.typ (.ints .i64 os), 0⟩, ⟨.cells [.int .i64 h0, .int .i64 h1], 0⟩, ⟨.cells [.ro (.ints .i64 ow) ow.length 1], 0⟩, ⟨.cells [.ro (.ints .i64 ot) ot.length 1], 0⟩, ⟨.typ (.ints .i64 th), 0⟩]) = some (.tup [.own 0 0 n 0 1, .int .i64 (so.go 1 ow ot (th.drop i) os h1 h0).2.1, .int .i64 (so.go 1 ow ot (th.drop i) os h1 h0).2.2.1, .int .i64 (so.go 1 ow ot (th.drop i) os h1 h0).2.2.2, .bool true], [⟨.typ (.ints .i64 (so.go 1 ow ot (th.drop i) os h1 h0).1), 0⟩, ⟨.cells [.int .i64 a, .int .i64 b], 0⟩, ⟨.cells [.ro (.ints .i64 ow) ow.length 1], 0⟩, ⟨.cells [.ro (.ints .i64 ot) ot.length 1], 0⟩, ⟨.typ (.ints .i64 th), 0⟩]) := by
  intro d
  induction d with
  | zero =>
    intro i k os h0 h1 ho hi hk b1 b2 b3
    obtain ⟨k, rfl⟩ : ∃ q, k = q + 1 := ⟨k - 1, by omega⟩
    refine ⟨h0, h1, ?_⟩
    rw [List.drop_of_length_le (by omega), so.go, roundB]
    simp -implicitDefEqProofs (disch := omega) only [take_one, set_one, decide_eq_true, decide_eq_false, IntWalk.i64_in, beqT, beqF, bneT, bneF, nat_succ, ← Int.natCast_mul, ← Int.natCast_add, Int.toNat_natCast, Int.zero_mul, Int.zero_add, Int.add_zero, Nat.zero_add, Nat.add_zero, Nat.zero_mul, List.length_singleton, List.length_append, List.length_nil, List.length_cons, List.take_length, List.drop_zero, List.replicate_zero, List.take_nil, List.nil_append, Nat.reduceBEq, Nat.reduceMul, Nat.reduceLeDiff, eq_self, and_self, true_and, and_true, decide_true, decide_false, Bool.and_self, Bool.or_self, Bool.and_true, Bool.true_and, Bool.and_false, Bool.false_and, Bool.or_true, Bool.true_or, Bool.or_false, Bool.false_or, Bool.not_true, Bool.not_false, cond_true, cond_false]
  | succ d ih =>
    intro i k os h0 h1 ho hi hk b1 b2 b3
    obtain ⟨k, rfl⟩ : ∃ q, k = q + 1 := ⟨k - 1, by omega⟩
    have hil : i < th.length := by omega
    have hx := ht _ (gz_mem hil)
    have dc : th.drop i = gz th i :: th.drop (i + 1) := by rw [List.drop_eq_getElem_cons hil, gz_eq hil]
    have w1 := so.small hw (gz th i).toNat
    have v1 := so.small hv (gz th i).toNat
    rw [dc, roundB]
    simp only [so.go]
    by_cases c0 : h1 - h0 = 0
    · have e : (h1 - h0 == 0) = true := by simpa using c0
      refine ⟨h0, h1, ?_⟩
      simp -implicitDefEqProofs (disch := omega) only [e, take_one, set_one, decide_eq_true, decide_eq_false, IntWalk.i64_in, beqT, beqF, bneT, bneF, nat_succ, ← Int.natCast_mul, ← Int.natCast_add, Int.toNat_natCast, Int.zero_mul, Int.zero_add, Int.add_zero, Nat.zero_add, Nat.add_zero, Nat.zero_mul, List.length_singleton, List.length_append, List.length_nil, List.length_cons, List.take_length, List.drop_zero, List.replicate_zero, List.take_nil, List.nil_append, Nat.reduceBEq, Nat.reduceMul, Nat.reduceLeDiff, eq_self, and_self, true_and, and_true, decide_true, decide_false, Bool.and_self, Bool.or_self, Bool.and_true, Bool.true_and, Bool.and_false, Bool.false_and, Bool.or_true, Bool.true_or, Bool.or_false, Bool.false_or, Bool.not_true, Bool.not_false, cond_true, cond_false]
    · have e : (h1 - h0 == 0) = false := by simpa using c0
      by_cases c1 : h1 - h0 < gz ow (gz th i).toNat + gz ot (gz th i).toNat
      · refine ⟨h0, h1, ?_⟩
        simp -implicitDefEqProofs (disch := omega) only [e, take_one, set_one, decide_eq_true, decide_eq_false, IntWalk.i64_in, beqT, beqF, bneT, bneF, nat_succ, ← Int.natCast_mul, ← Int.natCast_add, Int.toNat_natCast, Int.zero_mul, Int.zero_add, Int.add_zero, Nat.zero_add, Nat.add_zero, Nat.zero_mul, List.length_singleton, List.length_append, List.length_nil, List.length_cons, List.take_length, List.drop_zero, List.replicate_zero, List.take_nil, List.nil_append, Nat.reduceBEq, Nat.reduceMul, Nat.reduceLeDiff, eq_self, and_self, true_and, and_true, decide_true, decide_false, Bool.and_self, Bool.or_self, Bool.and_true, Bool.true_and, Bool.and_false, Bool.false_and, Bool.or_true, Bool.true_or, Bool.or_false, Bool.false_or, Bool.not_true, Bool.not_false, cond_true, cond_false]
      · obtain ⟨a, b, g⟩ := ih (i + 1) k (os.set (gz th i).toNat 0) (h0 + gz ot (gz th i).toNat) (h1 - gz ow (gz th i).toNat) (by rw [List.length_set]; exact ho) (by omega) (by omega) (by omega) (by omega) (by omega)
        refine ⟨a, b, ?_⟩
        simp -implicitDefEqProofs (disch := omega) only [e, take_one, set_one, decide_eq_true, decide_eq_false, IntWalk.i64_in, beqT, beqF, bneT, bneF, nat_succ, ← Int.natCast_mul, ← Int.natCast_add, Int.toNat_natCast, Int.zero_mul, Int.zero_add, Int.add_zero, Nat.zero_add, Nat.add_zero, Nat.zero_mul, List.length_singleton, List.length_append, List.length_nil, List.length_cons, List.take_length, List.drop_zero, List.replicate_zero, List.take_nil, List.nil_append, Nat.reduceBEq, Nat.reduceMul, Nat.reduceLeDiff, eq_self, and_self, true_and, and_true, decide_true, decide_false, Bool.and_self, Bool.or_self, Bool.and_true, Bool.true_and, Bool.and_false, Bool.false_and, Bool.or_true, Bool.true_or, Bool.or_false, Bool.false_or, Bool.not_true, Bool.not_false, cond_true, cond_false]
        exact g
theorem loop2 (ow ot : List Int) (n f : Nat) (h1' : ow.length = n) (h2' : ot.length = n) (hw : so.sm.sp ow = true) (hv : so.sm.sp ot = true) (hn : n ≤ 8) (os : List Int) (h0 h1 G : Int) (ho : os.length = n) : ∀ (d i k : Nat), i + d = n → d < k →
    L2 f k (mkS 191 [(11, .own 0 0 n 0 1), (12, .ptr 1 0 0), (15, .int .i64 G), (16, .ptr 2 0 0), (17, .ptr 3 0 0), (18, .own 4 0 (so.th os G i).length 0 1), (98, .own 0 0 n 0 1), (99, .int .i64 ((n : Nat) : Int)), (100, .int .i64 ((i : Nat) : Int))] [⟨.typ (.ints .i64 os), 0⟩, ⟨.cells [.int .i64 h0, .int .i64 h1], 0⟩, ⟨.cells [.ro (.ints .i64 ow) ow.length 1], 0⟩, ⟨.cells [.ro (.ints .i64 ot) ot.length 1], 0⟩, ⟨.typ (.ints .i64 (so.th os G i)), 0⟩]) = L4 f f (mkS 191 [(11, .own 0 0 n 0 1), (12, .ptr 1 0 0), (15, .int .i64 G), (16, .ptr 2 0 0), (17, .ptr 3 0 0), (116, .own 4 0 (so.th os G n).length 0 1), (117, .int .i64 (((so.th os G n).length : Nat) : Int)), (118, .int .i64 0)] [⟨.typ (.ints .i64 os), 0⟩, ⟨.cells [.int .i64 h0, .int .i64 h1], 0⟩, ⟨.cells [.ro (.ints .i64 ow) ow.length 1], 0⟩, ⟨.cells [.ro (.ints .i64 ot) ot.length 1], 0⟩, ⟨.typ (.ints .i64 (so.sort.sv ow ot (so.th os G n))), 0⟩]) := by
  intro d
  induction d with
  | zero =>
    intro i k hi hk
    obtain ⟨k, rfl⟩ : ∃ q, k = q + 1 := ⟨k - 1, by omega⟩
    obtain rfl : i = n := by omega
    have tl := so.th_length os G i
    have hin : so.in.sp ot.length (so.th os G i) = true := by rw [h2']; exact so.in_all (so.th_in os G i)
    rw [round2]
    simp -implicitDefEqProofs (disch := omega) only [hw, hv, hin, take_one, set_one, decide_eq_true, decide_eq_false, IntWalk.i64_in, beqT, beqF, bneT, bneF, nat_succ, ← Int.natCast_mul, ← Int.natCast_add, Int.toNat_natCast, Int.zero_mul, Int.zero_add, Int.add_zero, Nat.zero_add, Nat.add_zero, Nat.zero_mul, List.length_singleton, List.length_append, List.length_nil, List.length_cons, List.take_length, List.drop_zero, List.replicate_zero, List.take_nil, List.nil_append, Nat.reduceBEq, Nat.reduceMul, Nat.reduceLeDiff, eq_self, and_self, true_and, and_true, decide_true, decide_false, Bool.and_self, Bool.or_self, Bool.and_true, Bool.true_and, Bool.and_false, Bool.false_and, Bool.or_true, Bool.true_or, Bool.or_false, Bool.false_or, Bool.not_true, Bool.not_false, cond_true, cond_false]
  | succ d ih =>
    intro i k hi hk
    obtain ⟨k, rfl⟩ : ∃ q, k = q + 1 := ⟨k - 1, by omega⟩
    have g := ih (i + 1) k (by omega) (by omega)
    have tl := so.th_length os G i
    have tz : (so.th os G i).take (so.th os G i).length = so.th os G i := List.take_of_length_le (Nat.le_refl _)
    rw [round2]
    rw [so.th] at g
    cases hc : gz os i == G
    · rw [hc, cond_false] at g
      simp -implicitDefEqProofs (disch := omega) only [hc, take_one, set_one, decide_eq_true, decide_eq_false, IntWalk.i64_in, beqT, beqF, bneT, bneF, nat_succ, ← Int.natCast_mul, ← Int.natCast_add, Int.toNat_natCast, Int.zero_mul, Int.zero_add, Int.add_zero, Nat.zero_add, Nat.add_zero, Nat.zero_mul, List.length_singleton, List.length_append, List.length_nil, List.length_cons, List.take_length, List.drop_zero, List.replicate_zero, List.take_nil, List.nil_append, Nat.reduceBEq, Nat.reduceMul, Nat.reduceLeDiff, eq_self, and_self, true_and, and_true, decide_true, decide_false, Bool.and_self, Bool.or_self, Bool.and_true, Bool.true_and, Bool.and_false, Bool.false_and, Bool.or_true, Bool.true_or, Bool.or_false, Bool.false_or, Bool.not_true, Bool.not_false, cond_true, cond_false]
      exact g
    · rw [hc, cond_true, List.length_append, List.length_singleton] at g
      simp -implicitDefEqProofs (disch := omega) only [hc, tz, take_one, set_one, decide_eq_true, decide_eq_false, IntWalk.i64_in, beqT, beqF, bneT, bneF, nat_succ, ← Int.natCast_mul, ← Int.natCast_add, Int.toNat_natCast, Int.zero_mul, Int.zero_add, Int.add_zero, Nat.zero_add, Nat.add_zero, Nat.zero_mul, List.length_singleton, List.length_append, List.length_nil, List.length_cons, List.take_length, List.drop_zero, List.replicate_zero, List.take_nil, List.nil_append, Nat.reduceBEq, Nat.reduceMul, Nat.reduceLeDiff, eq_self, and_self, true_and, and_true, decide_true, decide_false, Bool.and_self, Bool.or_self, Bool.and_true, Bool.true_and, Bool.and_false, Bool.false_and, Bool.or_true, Bool.true_or, Bool.or_false, Bool.false_or, Bool.not_true, Bool.not_false, cond_true, cond_false]
      exact g
theorem loop0 (fs ss : List Int) (f : Nat) (hl : ss.length = fs.length) (hn : fs.length ≤ 8) (hw : so.sm.sp fs = true) (hv : so.sm.sp ss = true) (hf100 : 100 < f) : ∀ (d i k : Nat), i + d = fs.length → d < k →
    ∃ (ow ot th : List Int) (a b : Int), L0 f k (mkS 191 [(0, .ro (.ints .i64 fs) fs.length 1), (1, .ro (.ints .i64 ss) ss.length 1), (10, .rom [.ro (.ints .i64 fs) fs.length 1, .ro (.ints .i64 ss) ss.length 1] 0), (11, .own 0 0 i 0 1), (12, .ptr 1 0 0), (56, .int .i64 ((fs.length : Nat) : Int)), (57, .int .i64 ((i : Nat) : Int))] [⟨.typ (.ints .i64 (so.own.sv fs ss i)), 0⟩, ⟨.cells [.int .i64 (so.hf fs ss i), .int .i64 (so.hs fs ss i)], 0⟩]) = some (.tup [.own 0 0 fs.length 0 1, .int .i64 (so.res.sv fs ss fs.length).2.1, .int .i64 (so.res.sv fs ss fs.length).2.2.1, .int .i64 (so.res.sv fs ss fs.length).2.2.2, .bool true], [⟨.typ (.ints .i64 (so.res.sv fs ss fs.length).1), 0⟩, ⟨.cells [.int .i64 a, .int .i64 b], 0⟩, ⟨.cells [.ro (.ints .i64 ow) ow.length 1], 0⟩, ⟨.cells [.ro (.ints .i64 ot) ot.length 1], 0⟩, ⟨.typ (.ints .i64 th), 0⟩]) := by
  intro d
  induction d with
  | zero =>
    intro i k hi hk
    obtain ⟨k, rfl⟩ : ∃ q, k = q + 1 := ⟨k - 1, by omega⟩
    have hi' : i = fs.length := by omega
    subst hi'
    have ol := so.own_length fs ss fs.length
    have b0 := so.hf_in (ss := ss) hw fs.length
    have b1 := so.hs_in (fs := fs) hv fs.length
    have hsl := so.sort_length
    rw [round0]
    unfold so.res.sv
    by_cases c : so.hf fs ss fs.length < so.hs fs ss fs.length
    · have tl := so.th_length (so.own.sv fs ss fs.length) 1 fs.length
      have g2 := loop2 ss fs fs.length f hl rfl hv hw hn (so.own.sv fs ss fs.length) (so.hf fs ss fs.length) (so.hs fs ss fs.length) 1 ol fs.length 0 f (by omega) (by omega)
      obtain ⟨a, b, g4⟩ := loopB ss fs (so.sort.sv ss fs (so.th (so.own.sv fs ss fs.length) 1 fs.length)) fs.length f hl rfl hv hw hn (by rw [hsl]; omega) (so.sort_in (so.th_in _ _ _)) (so.th (so.own.sv fs ss fs.length) 1 fs.length).length 0 f (so.own.sv fs ss fs.length) (so.hf fs ss fs.length) (so.hs fs ss fs.length) ol (by rw [hsl]; omega) (by omega) b0.1 (by omega) (by omega)
      rw [hsl, List.drop_zero] at g4
      refine ⟨ss, fs, so.sort.sv ss fs (so.th (so.own.sv fs ss fs.length) 1 fs.length), a, b, ?_⟩
      simp only [so.fin]
      simp -implicitDefEqProofs (disch := omega) only [take_one, set_one, decide_eq_true, decide_eq_false, IntWalk.i64_in, beqT, beqF, bneT, bneF, nat_succ, ← Int.natCast_mul, ← Int.natCast_add, Int.toNat_natCast, Int.zero_mul, Int.zero_add, Int.add_zero, Nat.zero_add, Nat.add_zero, Nat.zero_mul, List.length_singleton, List.length_append, List.length_nil, List.length_cons, List.take_length, List.drop_zero, List.replicate_zero, List.take_nil, List.nil_append, Nat.reduceBEq, Nat.reduceMul, Nat.reduceLeDiff, eq_self, and_self, true_and, and_true, decide_true, decide_false, Bool.and_self, Bool.or_self, Bool.and_true, Bool.true_and, Bool.and_false, Bool.false_and, Bool.or_true, Bool.true_or, Bool.or_false, Bool.false_or, Bool.not_true, Bool.not_false, cond_true, cond_false]
      exact g2.trans g4
    · have tl := so.th_length (so.own.sv fs ss fs.length) 0 fs.length
      have g2 := loop2 fs ss fs.length f rfl hl hw hv hn (so.own.sv fs ss fs.length) (so.hf fs ss fs.length) (so.hs fs ss fs.length) 0 ol fs.length 0 f (by omega) (by omega)
      obtain ⟨a, b, g4⟩ := loopA fs ss (so.sort.sv fs ss (so.th (so.own.sv fs ss fs.length) 0 fs.length)) fs.length f rfl hl hw hv hn (by rw [hsl]; omega) (so.sort_in (so.th_in _ _ _)) (so.th (so.own.sv fs ss fs.length) 0 fs.length).length 0 f (so.own.sv fs ss fs.length) (so.hf fs ss fs.length) (so.hs fs ss fs.length) ol (by rw [hsl]; omega) (by omega) b1.1 (by omega) (by omega)
      rw [hsl, List.drop_zero] at g4
      refine ⟨fs, ss, so.sort.sv fs ss (so.th (so.own.sv fs ss fs.length) 0 fs.length), a, b, ?_⟩
      simp only [so.fin]
      simp -implicitDefEqProofs (disch := omega) only [take_one, set_one, decide_eq_true, decide_eq_false, IntWalk.i64_in, beqT, beqF, bneT, bneF, nat_succ, ← Int.natCast_mul, ← Int.natCast_add, Int.toNat_natCast, Int.zero_mul, Int.zero_add, Int.add_zero, Nat.zero_add, Nat.add_zero, Nat.zero_mul, List.length_singleton, List.length_append, List.length_nil, List.length_cons, List.take_length, List.drop_zero, List.replicate_zero, List.take_nil, List.nil_append, Nat.reduceBEq, Nat.reduceMul, Nat.reduceLeDiff, eq_self, and_self, true_and, and_true, decide_true, decide_false, Bool.and_self, Bool.or_self, Bool.and_true, Bool.true_and, Bool.and_false, Bool.false_and, Bool.or_true, Bool.true_or, Bool.or_false, Bool.false_or, Bool.not_true, Bool.not_false, cond_true, cond_false]
      exact g2.trans g4
  | succ d ih =>
    intro i k hi hk
    obtain ⟨k, rfl⟩ : ∃ q, k = q + 1 := ⟨k - 1, by omega⟩
    obtain ⟨ow, ot, th, a, b, g⟩ := ih (i + 1) k (by omega) (by omega)
    refine ⟨ow, ot, th, a, b, ?_⟩
    have ol := so.own_length fs ss i
    have tz : (so.own.sv fs ss i).take i = so.own.sv fs ss i := List.take_of_length_le (by omega)
    have b0 := so.hf_in (ss := ss) hw i
    have b1 := so.hs_in (fs := fs) hv i
    have w1 := so.small hw i
    have v1 := so.small hv i
    rw [← so.own_succ, so.hf, so.hs, so.on] at g
    rw [round0]
    by_cases c : gz fs i < gz ss i
    · rw [decide_eq_true c] at g
      simp only [cond_true, Int.add_zero] at g
      simp -implicitDefEqProofs (disch := omega) only [tz, take_one, set_one, decide_eq_true, decide_eq_false, IntWalk.i64_in, beqT, beqF, bneT, bneF, nat_succ, ← Int.natCast_mul, ← Int.natCast_add, Int.toNat_natCast, Int.zero_mul, Int.zero_add, Int.add_zero, Nat.zero_add, Nat.add_zero, Nat.zero_mul, List.length_singleton, List.length_append, List.length_nil, List.length_cons, List.take_length, List.drop_zero, List.replicate_zero, List.take_nil, List.nil_append, Nat.reduceBEq, Nat.reduceMul, Nat.reduceLeDiff, eq_self, and_self, true_and, and_true, decide_true, decide_false, Bool.and_self, Bool.or_self, Bool.and_true, Bool.true_and, Bool.and_false, Bool.false_and, Bool.or_true, Bool.true_or, Bool.or_false, Bool.false_or, Bool.not_true, Bool.not_false, cond_true, cond_false]
      exact g
    · rw [decide_eq_false c] at g
      simp only [cond_false, Int.add_zero] at g
      simp -implicitDefEqProofs (disch := omega) only [tz, take_one, set_one, decide_eq_true, decide_eq_false, IntWalk.i64_in, beqT, beqF, bneT, bneF, nat_succ, ← Int.natCast_mul, ← Int.natCast_add, Int.toNat_natCast, Int.zero_mul, Int.zero_add, Int.add_zero, Nat.zero_add, Nat.add_zero, Nat.zero_mul, List.length_singleton, List.length_append, List.length_nil, List.length_cons, List.take_length, List.drop_zero, List.replicate_zero, List.take_nil, List.nil_append, Nat.reduceBEq, Nat.reduceMul, Nat.reduceLeDiff, eq_self, and_self, true_and, and_true, decide_true, decide_false, Bool.and_self, Bool.or_self, Bool.and_true, Bool.true_and, Bool.and_false, Bool.false_and, Bool.or_true, Bool.true_or, Bool.or_false, Bool.false_or, Bool.not_true, Bool.not_false, cond_true, cond_false]
      exact g
theorem run : ∀ args v new, R args = some (true, v, new) → ∃ fuel, regc [0] (runFn Try.prog (orcW [⟨78, sortP.R⟩] [⟨77, areMany.R⟩, ⟨69, sumOf.R⟩, ⟨81, reduced.R⟩]) hd dr none fuel (bodyOf Try.f22) 191 [4, 5, 6, 7, 8] args []) = some (v, new) := by
  intro args v new h
  unfold R at h
  split at h
  · rename_i fs m ss m2
    simp only [Option.some.injEq, Prod.mk.injEq, Bool.and_eq_true, decide_eq_true_eq, so.tot.sp, beq_iff_eq] at h
    obtain ⟨⟨⟨rfl, rfl⟩, ⟨h1, h2⟩, hl, ⟨hw, hv⟩, hs, hz⟩, rfl, rfl⟩ := h
    obtain ⟨F, hF⟩ : ∃ F : Nat, F = 200 := ⟨200, rfl⟩
    refine ⟨F, ?_⟩
    obtain ⟨ow, ot, th, a, b, g⟩ := loop0 fs ss F hl h2 hw hv (by omega) fs.length 0 F (by omega) (by omega)
    have e1 : (fs.all fun x => decide (0 ≤ x) && decide (x ≤ 1000)) = true := hw
    have e2 : (ss.all fun x => decide (0 ≤ x) && decide (x ≤ 1000)) = true := hv
    have e3 : (sumOf.sp fs != sumOf.sp ss) = false := by rw [hs]; simp
    have e4 : (sumOf.sp fs == 0) = false := by simpa using hz
    rw [start]
    simp -implicitDefEqProofs (disch := omega) only [e1, e2, e3, e4, take_one, set_one, decide_eq_true, decide_eq_false, IntWalk.i64_in, beqT, beqF, bneT, bneF, nat_succ, ← Int.natCast_mul, ← Int.natCast_add, Int.toNat_natCast, Int.zero_mul, Int.zero_add, Int.add_zero, Nat.zero_add, Nat.add_zero, Nat.zero_mul, List.length_singleton, List.length_append, List.length_nil, List.length_cons, List.take_length, List.drop_zero, List.replicate_zero, List.take_nil, List.nil_append, Nat.reduceBEq, Nat.reduceMul, Nat.reduceLeDiff, eq_self, and_self, true_and, and_true, decide_true, decide_false, Bool.and_self, Bool.or_self, Bool.and_true, Bool.true_and, Bool.and_false, Bool.false_and, Bool.or_true, Bool.true_or, Bool.or_false, Bool.false_or, Bool.not_true, Bool.not_false, cond_true, cond_false]
    exact (congrArg (regc [0]) g).trans rfl
  · cases h
theorem ok : EntOk Try.prog ⟨22, R⟩ :=
  ent_okAG (ks := [0]) mixed (A := (orcW [⟨78, sortP.R⟩] [⟨77, areMany.R⟩, ⟨69, sumOf.R⟩, ⟨81, reduced.R⟩])) (orcW_ok (by simp only [List.mem_cons, List.not_mem_nil, or_false, forall_eq_or_imp, forall_eq]; exact sortP.ok) (by simp only [List.mem_cons, List.not_mem_nil, or_false, forall_eq_or_imp, forall_eq]; exact ⟨areMany.ok, sumOf.ok, reduced.ok⟩)) Try.func22 (by kernel_rfl) (by kernel_rfl) (n := 191) (ts := [4, 5, 6, 7, 8]) (hd := hd) (dr := dr) (cut := none) (by kernel_rfl) (by kernel_rfl) (by kernel_rfl) run
end iSplitOne

end Go.Proofs.Ytkoongajnnaeoaa.Ab
