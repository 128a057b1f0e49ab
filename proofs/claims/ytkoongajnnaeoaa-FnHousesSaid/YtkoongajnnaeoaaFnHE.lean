/-
  Functions: rounds of rings: the reference.
-/
import Derived.Test.YtkoongajnnaeoaaFnHC
namespace Go.Proofs.Ytkoongajnnaeoaa.Ab
open Go
set_option linter.unusedVariables false
set_option linter.unusedSimpArgs false
set_option maxRecDepth 100000

namespace hse
def fd (W : List (List Int)) (out : List Int) (i : Nat) : Nat → Int
  | 0 => -1
  | k + 1 => bif decide (fd W out i k < 0) then (bif decide (gz out (gz (gr W i) k).toNat < 0) then gz (gr W i) k else fd W out i k) else fd W out i k
theorem fd_ok {W : List (List Int)} {out : List Int} {i k0 : Nat} {x : Int} (h0 : 0 ≤ x) (e : gz (gr W i) k0 = x) (hx : gz out x.toNat < 0) (hb : ∀ m, m < k0 → 0 ≤ gz out (gz (gr W i) m).toNat) : ∀ k, (k ≤ k0 → fd W out i k = -1) ∧ (k0 < k → fd W out i k = x) := by
  intro k
  induction k with
  | zero => exact ⟨fun _ => rfl, fun h => by omega⟩
  | succ k ih =>
    refine ⟨fun h => ?_, fun h => ?_⟩
    · have a := ih.1 (by omega)
      have b := hb k (by omega)
      simp only [fd, a]
      rw [decide_eq_false (show ¬ gz out (gz (gr W i) k).toNat < 0 by omega)]
      rfl
    · by_cases c : k = k0
      · have a := ih.1 (by omega)
        subst c
        simp only [fd, a, e]
        rw [decide_eq_true hx]
        rfl
      · have a := ih.2 (by omega)
        simp only [fd, a]
        rw [decide_eq_false (show ¬ x < 0 by omega), cond_false]
theorem fd_pt {W : List (List Int)} {n : Nat} (v : V W n) {out : List Int} {i : Nat} (hi : i < n) {j : Nat} (hj : L out n j) : fd W out i n = (F W out i : Int) := by
  obtain ⟨e1, h2, k0, hk0, ek, hb⟩ := pt_ok v hi hj
  have := (fd_ok (W := W) (out := out) (i := i) (k0 := k0) (x := (F W out i : Int)) (by omega) (by rw [ek, e1]) (by rw [Int.toNat_natCast]; exact h2.2) hb n).2 hk0
  exact this
def pp.sv (W : List (List Int)) (out : List Int) (n i : Nat) : List Int := (List.range n).map fun j => if j < i then pt W out (j : Int) else 0
theorem pp_length (W : List (List Int)) (out : List Int) (n i : Nat) : (pp.sv W out n i).length = n := by simp [pp.sv]
theorem pp_get {W : List (List Int)} {out : List Int} {n i j : Nat} (h : j < n) : gz (pp.sv W out n i) j = if j < i then pt W out (j : Int) else 0 := by rw [gz_eq (by rw [pp_length]; exact h)]; simp [pp.sv]
theorem pp_zero (W : List (List Int)) (out : List Int) (n : Nat) : pp.sv W out n 0 = List.replicate n 0 := by
  refine List.ext_getElem (by simp [pp.sv]) fun j h1 h2 => ?_
  simp [pp.sv]
theorem pp_set {W : List (List Int)} {out : List Int} {n i : Nat} (hi : i < n) : (pp.sv W out n i).set i (pt W out (i : Int)) = pp.sv W out n (i + 1) := by
  refine List.ext_getElem (by simp [pp.sv]) fun j h1 h2 => ?_
  rw [List.length_set, pp_length] at h1
  have a := pp_get (W := W) (out := out) (i := i) h1
  have b := pp_get (W := W) (out := out) (i := i + 1) h1
  rw [gz_eq (by rw [pp_length]; exact h1)] at a b
  rw [List.getElem_set, a, b]
  by_cases e : i = j
  · subst e; rw [if_pos rfl, if_pos (by omega)]
  · rw [if_neg e]
    by_cases c : j < i
    · rw [if_pos c, if_pos (by omega)]
    · rw [if_neg c, if_neg (by omega)]
end hse

namespace sHouseRounds
def R : List AVal → Option (Bool × AVal × List Blk)
  | [.ro (.rows .i64 W) m 1] => some (decide (m = W.length) && hse.sp W, .tup [.own 0 0 m 0 1, .bool true], [⟨.typ (.ints .i64 (hse.sv W)), 0⟩])
  | _ => none
def hd : Nat → Head := fun i => bif eqN i 0 then ⟨[998, 0, 4, 5, 22, 23], none⟩ else bif eqN i 2 then ⟨[998, 0, 4, 5, 6], none⟩ else bif eqN i 4 then ⟨[998, 0, 4, 5, 6, 7, 35, 36], none⟩ else bif eqN i 6 then ⟨[998, 0, 4, 5, 6, 7, 8, 35, 36, 46, 47], none⟩ else bif eqN i 8 then ⟨[998, 0, 4, 5, 6, 7, 10, 82, 83], none⟩ else bif eqN i 10 then ⟨[998, 0, 4, 5, 6, 7, 10, 11, 12, 13, 82, 83], none⟩ else ⟨[998, 0, 4, 5, 6, 7, 10, 118, 119], none⟩
noncomputable def L0 (f n : Nat) (s : State) := loopAt Try.prog (orc [⟨100, l05Whole.R⟩]) hd Dr.std 0 f (bodyOf Try.f40) 0 [true, true, true, true, false, true] (retK Try.prog [2, 3] 0 none) n s
noncomputable def L2 (f n : Nat) (s : State) := loopAt Try.prog (orc [⟨100, l05Whole.R⟩]) hd Dr.std 0 f (bodyOf Try.f40) 0 [true, true, true, true, true, false, true] (retK Try.prog [2, 3] 0 none) n s
noncomputable def L4 (f n n2 : Nat) (s : State) := loopAt Try.prog (orc [⟨100, l05Whole.R⟩]) hd Dr.std 0 f (bodyAt (bodyOf Try.f40) [true, true, true, true, true, false, true]) (curAt (bodyOf Try.f40) 0 [true, true, true, true, true, false, true]) [true, true, false, true] (iterK (normE 0 (hd (curAt (bodyOf Try.f40) 0 [true, true, true, true, true, false, true]))) (L2 f n) (contAt Try.prog (orc [⟨100, l05Whole.R⟩]) hd Dr.std 0 f (bodyOf Try.f40) 0 [true, true, true, true, true, false, true] (retK Try.prog [2, 3] 0 none))) n2 s
noncomputable def L6 (f n n2 n3 : Nat) (s : State) := loopAt Try.prog (orc [⟨100, l05Whole.R⟩]) hd Dr.std 0 f (bodyAt (bodyAt (bodyOf Try.f40) [true, true, true, true, true, false, true]) [true, true, false, true]) (curAt (bodyAt (bodyOf Try.f40) [true, true, true, true, true, false, true]) (curAt (bodyOf Try.f40) 0 [true, true, true, true, true, false, true]) [true, true, false, true]) [true, true, false, true, true, true] (iterK (normE 0 (hd (curAt (bodyAt (bodyOf Try.f40) [true, true, true, true, true, false, true]) (curAt (bodyOf Try.f40) 0 [true, true, true, true, true, false, true]) [true, true, false, true]))) (L4 f n n2) (contAt Try.prog (orc [⟨100, l05Whole.R⟩]) hd Dr.std 0 f (bodyAt (bodyOf Try.f40) [true, true, true, true, true, false, true]) (curAt (bodyOf Try.f40) 0 [true, true, true, true, true, false, true]) [true, true, false, true] (iterK (normE 0 (hd (curAt (bodyOf Try.f40) 0 [true, true, true, true, true, false, true]))) (L2 f n) (contAt Try.prog (orc [⟨100, l05Whole.R⟩]) hd Dr.std 0 f (bodyOf Try.f40) 0 [true, true, true, true, true, false, true] (retK Try.prog [2, 3] 0 none))))) n3 s
noncomputable def L8 (f n n2 : Nat) (s : State) := loopAt Try.prog (orc [⟨100, l05Whole.R⟩]) hd Dr.std 0 f (bodyAt (bodyOf Try.f40) [true, true, true, true, true, false, true]) (curAt (bodyOf Try.f40) 0 [true, true, true, true, true, false, true]) [true, true, true, true, false, true] (iterK (normE 0 (hd (curAt (bodyOf Try.f40) 0 [true, true, true, true, true, false, true]))) (L2 f n) (contAt Try.prog (orc [⟨100, l05Whole.R⟩]) hd Dr.std 0 f (bodyOf Try.f40) 0 [true, true, true, true, true, false, true] (retK Try.prog [2, 3] 0 none))) n2 s
noncomputable def L10 (f n n2 n3 : Nat) (s : State) := loopAt Try.prog (orc [⟨100, l05Whole.R⟩]) hd Dr.std 0 f (bodyAt (bodyAt (bodyOf Try.f40) [true, true, true, true, true, false, true]) [true, true, true, true, false, true]) (curAt (bodyAt (bodyOf Try.f40) [true, true, true, true, true, false, true]) (curAt (bodyOf Try.f40) 0 [true, true, true, true, true, false, true]) [true, true, true, true, false, true]) [true, true, false, true, true, true, false, true] (iterK (normE 0 (hd (curAt (bodyAt (bodyOf Try.f40) [true, true, true, true, true, false, true]) (curAt (bodyOf Try.f40) 0 [true, true, true, true, true, false, true]) [true, true, true, true, false, true]))) (L8 f n n2) (contAt Try.prog (orc [⟨100, l05Whole.R⟩]) hd Dr.std 0 f (bodyAt (bodyOf Try.f40) [true, true, true, true, true, false, true]) (curAt (bodyOf Try.f40) 0 [true, true, true, true, true, false, true]) [true, true, true, true, false, true] (iterK (normE 0 (hd (curAt (bodyOf Try.f40) 0 [true, true, true, true, true, false, true]))) (L2 f n) (contAt Try.prog (orc [⟨100, l05Whole.R⟩]) hd Dr.std 0 f (bodyOf Try.f40) 0 [true, true, true, true, true, false, true] (retK Try.prog [2, 3] 0 none))))) n3 s
noncomputable def L12 (f n n2 : Nat) (s : State) := loopAt Try.prog (orc [⟨100, l05Whole.R⟩]) hd Dr.std 0 f (bodyAt (bodyOf Try.f40) [true, true, true, true, true, false, true]) (curAt (bodyOf Try.f40) 0 [true, true, true, true, true, false, true]) [true, true, true, true, true, true] (iterK (normE 0 (hd (curAt (bodyOf Try.f40) 0 [true, true, true, true, true, false, true]))) (L2 f n) (contAt Try.prog (orc [⟨100, l05Whole.R⟩]) hd Dr.std 0 f (bodyOf Try.f40) 0 [true, true, true, true, true, false, true] (retK Try.prog [2, 3] 0 none))) n2 s
theorem start (W : List (List Int)) (f : Nat) :
  runFn Try.prog (orc [⟨100, l05Whole.R⟩]) hd Dr.std none f (bodyOf Try.f40) 139 [2, 3] [.ro (.rows .i64 W) W.length 1] []
  = (bif decide (W.length = W.length) && hse.sp W && (true && true || true && true) then L0 f f (mkS (139 : Nat) [((0 : Nat), AVal.ro (Cont.rows IntKind.i64 W) W.length (1 : Nat)), ((4 : Nat), AVal.int IntKind.i64 (↑W.length : Int)), ((5 : Nat), AVal.own (0 : Nat) (0 : Nat) (0 : Nat) (0 : Nat) (1 : Nat)), ((22 : Nat), AVal.int IntKind.i64 (↑W.length : Int)), ((23 : Nat), AVal.int IntKind.i64 (0 : Int))] [{ c := BC.typ (Cont.ints IntKind.i64 (List.replicate (0 : Nat) (0 : Int))), ver := (0 : Nat) }]) else none) := by kernel_rfl
theorem round0 (W : List (List Int)) (N : Nat) (out : List Int) (q i f n : Nat) :
  L0 f (n + 1) (mkS 139 [(0, .ro (.rows .i64 W) W.length 1), (4, .int .i64 ((N : Nat) : Int)), (5, .own 0 0 q 0 1), (22, .int .i64 ((N : Nat) : Int)), (23, .int .i64 i)] [⟨.typ (.ints .i64 out), 0⟩])
  = (bif decide ((↑i : Int) < (↑N : Int)) then bif (1 : Nat) == (1 : Nat) && (1 : Nat) == (1 : Nat) && (true && (true && true) && (true && true && (decide (q + (1 : Nat) ≤ (4611686018427387904 : Nat)) && decide ((q + (1 : Nat)) * (8 : Nat) ≤ (140737488355328 : Nat))))) then L0 f n (mkS (139 : Nat) [((0 : Nat), AVal.ro (Cont.rows IntKind.i64 W) W.length (1 : Nat)), ((4 : Nat), AVal.int IntKind.i64 (↑N : Int)), ((5 : Nat), AVal.own (0 : Nat) (0 : Nat) (q + (1 : Nat)) (0 : Nat) (1 : Nat)), ((22 : Nat), AVal.int IntKind.i64 (↑N : Int)), ((23 : Nat), AVal.int IntKind.i64 (IntKind.i64.wrap ((↑i : Int) + (1 : Int))))] [{ c := BC.typ (Cont.ints IntKind.i64 (List.take q out ++ List.take (1 : Nat) (List.drop (0 : Nat) ((List.replicate (1 : Nat) (0 : Int)).set (0 : Nat) (-1 : Int))))), ver := (0 : Nat) }]) else none else L2 f f (mkS (139 : Nat) [((0 : Nat), AVal.ro (Cont.rows IntKind.i64 W) W.length (1 : Nat)), ((4 : Nat), AVal.int IntKind.i64 (↑N : Int)), ((5 : Nat), AVal.own (0 : Nat) (0 : Nat) q (0 : Nat) (1 : Nat)), ((6 : Nat), AVal.int IntKind.i64 (↑N : Int))] [{ c := BC.typ (Cont.ints IntKind.i64 out), ver := (0 : Nat) }])) := by kernel_rfl
theorem round2 (W : List (List Int)) (N : Nat) (out : List Int) (l : Int) (f n : Nat) :
  L2 f (n + 1) (mkS 139 [(0, .ro (.rows .i64 W) W.length 1), (4, .int .i64 ((N : Nat) : Int)), (5, .own 0 0 N 0 1), (6, .int .i64 l)] [⟨.typ (.ints .i64 out), 0⟩])
  = (bif decide ((0 : Int) < l) then bif (1 : Nat) == (1 : Nat) && ((↑N : Int) == (↑N : Int) && (decide ((0 : Int) ≤ (↑N : Int)) && (decide ((↑N : Int) * (8 : Int) ≤ (140737488355328 : Int)) && decide ((↑N : Int) ≤ (4611686018427387904 : Int))))) then L4 f n f (mkS (139 : Nat) [((0 : Nat), AVal.ro (Cont.rows IntKind.i64 W) W.length (1 : Nat)), ((4 : Nat), AVal.int IntKind.i64 (↑N : Int)), ((5 : Nat), AVal.own (0 : Nat) (0 : Nat) N (0 : Nat) (1 : Nat)), ((6 : Nat), AVal.int IntKind.i64 l), ((7 : Nat), AVal.own (1 : Nat) (0 : Nat) (↑N : Int).toNat (0 : Nat) (1 : Nat)), ((35 : Nat), AVal.int IntKind.i64 (↑W.length : Int)), ((36 : Nat), AVal.int IntKind.i64 (0 : Int))] [{ c := BC.typ (Cont.ints IntKind.i64 out), ver := (0 : Nat) }, { c := BC.typ (Cont.ints IntKind.i64 (List.replicate (↑N : Int).toNat (0 : Int))), ver := (0 : Nat) }]) else none else some (AVal.tup [AVal.own (0 : Nat) (0 : Nat) N (0 : Nat) (1 : Nat), AVal.bool true], [{ c := BC.typ (Cont.ints IntKind.i64 out), ver := (0 : Nat) }])) := by kernel_rfl
theorem round4 (W : List (List Int)) (N : Nat) (out : List Int) (pts : List Int) (l : Int) (i f n n2 : Nat) :
  L4 f n (n2 + 1) (mkS 139 [(0, .ro (.rows .i64 W) W.length 1), (4, .int .i64 ((N : Nat) : Int)), (5, .own 0 0 N 0 1), (6, .int .i64 l), (7, .own 1 0 N 0 1), (35, .int .i64 ((N : Nat) : Int)), (36, .int .i64 i)] [⟨.typ (.ints .i64 out), 0⟩, ⟨.typ (.ints .i64 pts), 0⟩])
  = (bif decide ((↑i : Int) < (↑N : Int)) then bif true && (decide ((0 : Int) ≤ (↑i : Int)) && decide ((↑i : Int) < (↑N : Int))) then bif true && (true && (decide ((↑i : Int).toNat < pts.length) && true)) then bif true && (decide ((0 : Int) ≤ (↑i : Int)) && decide ((↑i : Int) < (↑W.length : Int))) then bif decide ((↑i : Int).toNat < W.length) then L6 f n n2 f (mkS (139 : Nat) [((0 : Nat), AVal.ro (Cont.rows IntKind.i64 W) W.length (1 : Nat)), ((4 : Nat), AVal.int IntKind.i64 (↑N : Int)), ((5 : Nat), AVal.own (0 : Nat) (0 : Nat) N (0 : Nat) (1 : Nat)), ((6 : Nat), AVal.int IntKind.i64 l), ((7 : Nat), AVal.own (1 : Nat) (0 : Nat) N (0 : Nat) (1 : Nat)), ((8 : Nat), AVal.int IntKind.i64 (↑i : Int)), ((35 : Nat), AVal.int IntKind.i64 (↑N : Int)), ((36 : Nat), AVal.int IntKind.i64 (↑i : Int)), ((46 : Nat), AVal.int IntKind.i64 (↑(gr W (↑i : Int).toNat).length : Int)), ((47 : Nat), AVal.int IntKind.i64 (0 : Int))] [{ c := BC.typ (Cont.ints IntKind.i64 out), ver := (0 : Nat) }, { c := BC.typ (Cont.ints IntKind.i64 (pts.set (↑i : Int).toNat (-1 : Int))), ver := (0 : Nat) }]) else none else none else none else none else L8 f n f (mkS (139 : Nat) [((0 : Nat), AVal.ro (Cont.rows IntKind.i64 W) W.length (1 : Nat)), ((4 : Nat), AVal.int IntKind.i64 (↑N : Int)), ((5 : Nat), AVal.own (0 : Nat) (0 : Nat) N (0 : Nat) (1 : Nat)), ((6 : Nat), AVal.int IntKind.i64 l), ((7 : Nat), AVal.own (1 : Nat) (0 : Nat) N (0 : Nat) (1 : Nat)), ((10 : Nat), AVal.own (2 : Nat) (0 : Nat) (0 : Nat) (0 : Nat) (1 : Nat)), ((82 : Nat), AVal.int IntKind.i64 (↑W.length : Int)), ((83 : Nat), AVal.int IntKind.i64 (0 : Int))] [{ c := BC.typ (Cont.ints IntKind.i64 out), ver := (0 : Nat) }, { c := BC.typ (Cont.ints IntKind.i64 pts), ver := (0 : Nat) }, { c := BC.typ (Cont.ints IntKind.i64 (List.replicate (0 : Nat) (0 : Int))), ver := (0 : Nat) }])) := by kernel_rfl
theorem round6 (W : List (List Int)) (N : Nat) (out : List Int) (pts : List Int) (l : Int) (i k f n n2 n3 : Nat) :
  L6 f n n2 (n3 + 1) (mkS 139 [(0, .ro (.rows .i64 W) W.length 1), (4, .int .i64 ((N : Nat) : Int)), (5, .own 0 0 N 0 1), (6, .int .i64 l), (7, .own 1 0 N 0 1), (8, .int .i64 i), (35, .int .i64 ((N : Nat) : Int)), (36, .int .i64 i), (46, .int .i64 ((N : Nat) : Int)), (47, .int .i64 k)] [⟨.typ (.ints .i64 out), 0⟩, ⟨.typ (.ints .i64 pts), 0⟩])
  = (bif decide ((↑k : Int) < (↑N : Int)) then bif true && (decide ((0 : Int) ≤ (↑i : Int)) && decide ((↑i : Int) < (↑N : Int))) then bif true && decide ((↑i : Int).toNat < pts.length) then bif decide (gz pts (↑i : Int).toNat < (0 : Int)) then bif true && (decide ((0 : Int) ≤ (↑i : Int)) && decide ((↑i : Int) < (↑W.length : Int))) then bif decide ((↑i : Int).toNat < W.length) then bif true && (decide ((0 : Int) ≤ (↑k : Int)) && decide ((↑k : Int) < (↑(gr W (↑i : Int).toNat).length : Int))) then bif decide ((↑k : Int).toNat < (gr W (↑i : Int).toNat).length) then bif true && (decide ((0 : Int) ≤ gz (gr W (↑i : Int).toNat) (↑k : Int).toNat) && decide (gz (gr W (↑i : Int).toNat) (↑k : Int).toNat < (↑N : Int))) then bif true && decide ((gz (gr W (↑i : Int).toNat) (↑k : Int).toNat).toNat < out.length) then bif decide (gz out (gz (gr W (↑i : Int).toNat) (↑k : Int).toNat).toNat < (0 : Int)) then bif true && (decide ((0 : Int) ≤ (↑i : Int)) && decide ((↑i : Int) < (↑W.length : Int))) then bif decide ((↑i : Int).toNat < W.length) then bif true && (decide ((0 : Int) ≤ (↑k : Int)) && decide ((↑k : Int) < (↑(gr W (↑i : Int).toNat).length : Int))) then bif decide ((↑k : Int).toNat < (gr W (↑i : Int).toNat).length) then bif true && (decide ((0 : Int) ≤ (↑i : Int)) && decide ((↑i : Int) < (↑N : Int))) then bif true && (true && (decide ((↑i : Int).toNat < pts.length) && true)) then L6 f n n2 n3 (mkS (139 : Nat) [((0 : Nat), AVal.ro (Cont.rows IntKind.i64 W) W.length (1 : Nat)), ((4 : Nat), AVal.int IntKind.i64 (↑N : Int)), ((5 : Nat), AVal.own (0 : Nat) (0 : Nat) N (0 : Nat) (1 : Nat)), ((6 : Nat), AVal.int IntKind.i64 l), ((7 : Nat), AVal.own (1 : Nat) (0 : Nat) N (0 : Nat) (1 : Nat)), ((8 : Nat), AVal.int IntKind.i64 (↑i : Int)), ((35 : Nat), AVal.int IntKind.i64 (↑N : Int)), ((36 : Nat), AVal.int IntKind.i64 (↑i : Int)), ((46 : Nat), AVal.int IntKind.i64 (↑N : Int)), ((47 : Nat), AVal.int IntKind.i64 (IntKind.i64.wrap ((↑k : Int) + (1 : Int))))] [{ c := BC.typ (Cont.ints IntKind.i64 out), ver := (0 : Nat) }, { c := BC.typ (Cont.ints IntKind.i64 (pts.set (↑i : Int).toNat (gz (gr W (↑i : Int).toNat) (↑k : Int).toNat))), ver := (0 : Nat) }]) else none else none else none else none else none else none else L6 f n n2 n3 (mkS (139 : Nat) [((0 : Nat), AVal.ro (Cont.rows IntKind.i64 W) W.length (1 : Nat)), ((4 : Nat), AVal.int IntKind.i64 (↑N : Int)), ((5 : Nat), AVal.own (0 : Nat) (0 : Nat) N (0 : Nat) (1 : Nat)), ((6 : Nat), AVal.int IntKind.i64 l), ((7 : Nat), AVal.own (1 : Nat) (0 : Nat) N (0 : Nat) (1 : Nat)), ((8 : Nat), AVal.int IntKind.i64 (↑i : Int)), ((35 : Nat), AVal.int IntKind.i64 (↑N : Int)), ((36 : Nat), AVal.int IntKind.i64 (↑i : Int)), ((46 : Nat), AVal.int IntKind.i64 (↑N : Int)), ((47 : Nat), AVal.int IntKind.i64 (IntKind.i64.wrap ((↑k : Int) + (1 : Int))))] [{ c := BC.typ (Cont.ints IntKind.i64 out), ver := (0 : Nat) }, { c := BC.typ (Cont.ints IntKind.i64 pts), ver := (0 : Nat) }]) else none else none else none else none else none else none else L6 f n n2 n3 (mkS (139 : Nat) [((0 : Nat), AVal.ro (Cont.rows IntKind.i64 W) W.length (1 : Nat)), ((4 : Nat), AVal.int IntKind.i64 (↑N : Int)), ((5 : Nat), AVal.own (0 : Nat) (0 : Nat) N (0 : Nat) (1 : Nat)), ((6 : Nat), AVal.int IntKind.i64 l), ((7 : Nat), AVal.own (1 : Nat) (0 : Nat) N (0 : Nat) (1 : Nat)), ((8 : Nat), AVal.int IntKind.i64 (↑i : Int)), ((35 : Nat), AVal.int IntKind.i64 (↑N : Int)), ((36 : Nat), AVal.int IntKind.i64 (↑i : Int)), ((46 : Nat), AVal.int IntKind.i64 (↑N : Int)), ((47 : Nat), AVal.int IntKind.i64 (IntKind.i64.wrap ((↑k : Int) + (1 : Int))))] [{ c := BC.typ (Cont.ints IntKind.i64 out), ver := (0 : Nat) }, { c := BC.typ (Cont.ints IntKind.i64 pts), ver := (0 : Nat) }]) else none else none else L4 f n n2 (mkS (139 : Nat) [((0 : Nat), AVal.ro (Cont.rows IntKind.i64 W) W.length (1 : Nat)), ((4 : Nat), AVal.int IntKind.i64 (↑N : Int)), ((5 : Nat), AVal.own (0 : Nat) (0 : Nat) N (0 : Nat) (1 : Nat)), ((6 : Nat), AVal.int IntKind.i64 l), ((7 : Nat), AVal.own (1 : Nat) (0 : Nat) N (0 : Nat) (1 : Nat)), ((35 : Nat), AVal.int IntKind.i64 (↑N : Int)), ((36 : Nat), AVal.int IntKind.i64 (IntKind.i64.wrap ((↑i : Int) + (1 : Int))))] [{ c := BC.typ (Cont.ints IntKind.i64 out), ver := (0 : Nat) }, { c := BC.typ (Cont.ints IntKind.i64 pts), ver := (0 : Nat) }])) := by kernel_rfl
theorem round8 (W : List (List Int)) (N : Nat) (out : List Int) (pts g : List Int) (l : Int) (q i f n n2 : Nat) :
  L8 f n (n2 + 1) (mkS 139 [(0, .ro (.rows .i64 W) W.length 1), (4, .int .i64 ((N : Nat) : Int)), (5, .own 0 0 N 0 1), (6, .int .i64 l), (7, .own 1 0 N 0 1), (10, .own 2 0 q 0 1), (82, .int .i64 ((N : Nat) : Int)), (83, .int .i64 i)] [⟨.typ (.ints .i64 out), 0⟩, ⟨.typ (.ints .i64 pts), 0⟩, ⟨.typ (.ints .i64 g), 0⟩])
  = (bif decide ((↑i : Int) < (↑N : Int)) then bif true && (decide ((0 : Int) ≤ (↑i : Int)) && decide ((↑i : Int) < (↑N : Int))) then bif true && decide ((↑i : Int).toNat < out.length) then bif decide ((0 : Int) ≤ gz out (↑i : Int).toNat) then L8 f n n2 (mkS (139 : Nat) [((0 : Nat), AVal.ro (Cont.rows IntKind.i64 W) W.length (1 : Nat)), ((4 : Nat), AVal.int IntKind.i64 (↑N : Int)), ((5 : Nat), AVal.own (0 : Nat) (0 : Nat) N (0 : Nat) (1 : Nat)), ((6 : Nat), AVal.int IntKind.i64 l), ((7 : Nat), AVal.own (1 : Nat) (0 : Nat) N (0 : Nat) (1 : Nat)), ((10 : Nat), AVal.own (2 : Nat) (0 : Nat) q (0 : Nat) (1 : Nat)), ((82 : Nat), AVal.int IntKind.i64 (↑N : Int)), ((83 : Nat), AVal.int IntKind.i64 (IntKind.i64.wrap ((↑i : Int) + (1 : Int))))] [{ c := BC.typ (Cont.ints IntKind.i64 out), ver := (0 : Nat) }, { c := BC.typ (Cont.ints IntKind.i64 pts), ver := (0 : Nat) }, { c := BC.typ (Cont.ints IntKind.i64 g), ver := (0 : Nat) }]) else bif true && (decide ((0 : Int) ≤ (↑i : Int)) && decide ((↑i : Int) < (↑N : Int))) then bif true && decide ((↑i : Int).toNat < pts.length) then L10 f n n2 f (mkS (139 : Nat) [((0 : Nat), AVal.ro (Cont.rows IntKind.i64 W) W.length (1 : Nat)), ((4 : Nat), AVal.int IntKind.i64 (↑N : Int)), ((5 : Nat), AVal.own (0 : Nat) (0 : Nat) N (0 : Nat) (1 : Nat)), ((6 : Nat), AVal.int IntKind.i64 l), ((7 : Nat), AVal.own (1 : Nat) (0 : Nat) N (0 : Nat) (1 : Nat)), ((10 : Nat), AVal.own (2 : Nat) (0 : Nat) q (0 : Nat) (1 : Nat)), ((11 : Nat), AVal.int IntKind.i64 (↑i : Int)), ((12 : Nat), AVal.int IntKind.i64 (gz pts (↑i : Int).toNat)), ((13 : Nat), AVal.int IntKind.i64 (0 : Int)), ((82 : Nat), AVal.int IntKind.i64 (↑N : Int)), ((83 : Nat), AVal.int IntKind.i64 (↑i : Int))] [{ c := BC.typ (Cont.ints IntKind.i64 out), ver := (0 : Nat) }, { c := BC.typ (Cont.ints IntKind.i64 pts), ver := (0 : Nat) }, { c := BC.typ (Cont.ints IntKind.i64 g), ver := (0 : Nat) }]) else none else none else none else none else L12 f n f (mkS (139 : Nat) [((0 : Nat), AVal.ro (Cont.rows IntKind.i64 W) W.length (1 : Nat)), ((4 : Nat), AVal.int IntKind.i64 (↑N : Int)), ((5 : Nat), AVal.own (0 : Nat) (0 : Nat) N (0 : Nat) (1 : Nat)), ((6 : Nat), AVal.int IntKind.i64 l), ((7 : Nat), AVal.own (1 : Nat) (0 : Nat) N (0 : Nat) (1 : Nat)), ((10 : Nat), AVal.own (2 : Nat) (0 : Nat) q (0 : Nat) (1 : Nat)), ((118 : Nat), AVal.int IntKind.i64 (↑q : Int)), ((119 : Nat), AVal.int IntKind.i64 (0 : Int))] [{ c := BC.typ (Cont.ints IntKind.i64 out), ver := (0 : Nat) }, { c := BC.typ (Cont.ints IntKind.i64 pts), ver := (0 : Nat) }, { c := BC.typ (Cont.ints IntKind.i64 g), ver := (0 : Nat) }])) := by kernel_rfl
theorem round10 (W : List (List Int)) (N : Nat) (out : List Int) (pts g : List Int) (l : Int) (q i : Nat) (a : Int) (k f n n2 n3 : Nat) :
  L10 f n n2 (n3 + 1) (mkS 139 [(0, .ro (.rows .i64 W) W.length 1), (4, .int .i64 ((N : Nat) : Int)), (5, .own 0 0 N 0 1), (6, .int .i64 l), (7, .own 1 0 N 0 1), (10, .own 2 0 q 0 1), (11, .int .i64 i), (12, .int .i64 a), (13, .int .i64 k), (82, .int .i64 ((N : Nat) : Int)), (83, .int .i64 i)] [⟨.typ (.ints .i64 out), 0⟩, ⟨.typ (.ints .i64 pts), 0⟩, ⟨.typ (.ints .i64 g), 0⟩])
  = (bif decide ((↑k : Int) < (↑N : Int)) then bif a != (↑i : Int) then bif true && (decide ((0 : Int) ≤ a) && decide (a < (↑N : Int))) then bif true && decide (a.toNat < pts.length) then L10 f n n2 n3 (mkS (139 : Nat) [((0 : Nat), AVal.ro (Cont.rows IntKind.i64 W) W.length (1 : Nat)), ((4 : Nat), AVal.int IntKind.i64 (↑N : Int)), ((5 : Nat), AVal.own (0 : Nat) (0 : Nat) N (0 : Nat) (1 : Nat)), ((6 : Nat), AVal.int IntKind.i64 l), ((7 : Nat), AVal.own (1 : Nat) (0 : Nat) N (0 : Nat) (1 : Nat)), ((10 : Nat), AVal.own (2 : Nat) (0 : Nat) q (0 : Nat) (1 : Nat)), ((11 : Nat), AVal.int IntKind.i64 (↑i : Int)), ((12 : Nat), AVal.int IntKind.i64 (gz pts a.toNat)), ((13 : Nat), AVal.int IntKind.i64 (IntKind.i64.wrap ((↑k : Int) + (1 : Int)))), ((82 : Nat), AVal.int IntKind.i64 (↑N : Int)), ((83 : Nat), AVal.int IntKind.i64 (↑i : Int))] [{ c := BC.typ (Cont.ints IntKind.i64 out), ver := (0 : Nat) }, { c := BC.typ (Cont.ints IntKind.i64 pts), ver := (0 : Nat) }, { c := BC.typ (Cont.ints IntKind.i64 g), ver := (0 : Nat) }]) else none else none else bif a == (↑i : Int) then bif (1 : Nat) == (1 : Nat) && (1 : Nat) == (1 : Nat) && (true && (true && true) && (true && true && (decide (q + (List.take (1 : Nat) (List.drop (0 : Nat) ((List.replicate (1 : Nat) (0 : Int)).set (0 : Nat) (↑i : Int)))).length ≤ (4611686018427387904 : Nat)) && decide ((q + (List.take (1 : Nat) (List.drop (0 : Nat) ((List.replicate (1 : Nat) (0 : Int)).set (0 : Nat) (↑i : Int)))).length) * (8 : Nat) ≤ (140737488355328 : Nat))))) then L8 f n n2 (mkS (139 : Nat) [((0 : Nat), AVal.ro (Cont.rows IntKind.i64 W) W.length (1 : Nat)), ((4 : Nat), AVal.int IntKind.i64 (↑N : Int)), ((5 : Nat), AVal.own (0 : Nat) (0 : Nat) N (0 : Nat) (1 : Nat)), ((6 : Nat), AVal.int IntKind.i64 l), ((7 : Nat), AVal.own (1 : Nat) (0 : Nat) N (0 : Nat) (1 : Nat)), ((10 : Nat), AVal.own (2 : Nat) (0 : Nat) (q + (List.take (1 : Nat) (List.drop (0 : Nat) ((List.replicate (1 : Nat) (0 : Int)).set (0 : Nat) (↑i : Int)))).length) (0 : Nat) (1 : Nat)), ((82 : Nat), AVal.int IntKind.i64 (↑N : Int)), ((83 : Nat), AVal.int IntKind.i64 (IntKind.i64.wrap ((↑i : Int) + (1 : Int))))] [{ c := BC.typ (Cont.ints IntKind.i64 out), ver := (0 : Nat) }, { c := BC.typ (Cont.ints IntKind.i64 pts), ver := (0 : Nat) }, { c := BC.typ (Cont.ints IntKind.i64 (List.take q g ++ List.take (1 : Nat) (List.drop (0 : Nat) ((List.replicate (1 : Nat) (0 : Int)).set (0 : Nat) (↑i : Int))))), ver := (0 : Nat) }]) else none else L8 f n n2 (mkS (139 : Nat) [((0 : Nat), AVal.ro (Cont.rows IntKind.i64 W) W.length (1 : Nat)), ((4 : Nat), AVal.int IntKind.i64 (↑N : Int)), ((5 : Nat), AVal.own (0 : Nat) (0 : Nat) N (0 : Nat) (1 : Nat)), ((6 : Nat), AVal.int IntKind.i64 l), ((7 : Nat), AVal.own (1 : Nat) (0 : Nat) N (0 : Nat) (1 : Nat)), ((10 : Nat), AVal.own (2 : Nat) (0 : Nat) q (0 : Nat) (1 : Nat)), ((82 : Nat), AVal.int IntKind.i64 (↑N : Int)), ((83 : Nat), AVal.int IntKind.i64 (IntKind.i64.wrap ((↑i : Int) + (1 : Int))))] [{ c := BC.typ (Cont.ints IntKind.i64 out), ver := (0 : Nat) }, { c := BC.typ (Cont.ints IntKind.i64 pts), ver := (0 : Nat) }, { c := BC.typ (Cont.ints IntKind.i64 g), ver := (0 : Nat) }]) else bif a == (↑i : Int) then bif (1 : Nat) == (1 : Nat) && (1 : Nat) == (1 : Nat) && (true && (true && true) && (true && true && (decide (q + (List.take (1 : Nat) (List.drop (0 : Nat) ((List.replicate (1 : Nat) (0 : Int)).set (0 : Nat) (↑i : Int)))).length ≤ (4611686018427387904 : Nat)) && decide ((q + (List.take (1 : Nat) (List.drop (0 : Nat) ((List.replicate (1 : Nat) (0 : Int)).set (0 : Nat) (↑i : Int)))).length) * (8 : Nat) ≤ (140737488355328 : Nat))))) then L8 f n n2 (mkS (139 : Nat) [((0 : Nat), AVal.ro (Cont.rows IntKind.i64 W) W.length (1 : Nat)), ((4 : Nat), AVal.int IntKind.i64 (↑N : Int)), ((5 : Nat), AVal.own (0 : Nat) (0 : Nat) N (0 : Nat) (1 : Nat)), ((6 : Nat), AVal.int IntKind.i64 l), ((7 : Nat), AVal.own (1 : Nat) (0 : Nat) N (0 : Nat) (1 : Nat)), ((10 : Nat), AVal.own (2 : Nat) (0 : Nat) (q + (List.take (1 : Nat) (List.drop (0 : Nat) ((List.replicate (1 : Nat) (0 : Int)).set (0 : Nat) (↑i : Int)))).length) (0 : Nat) (1 : Nat)), ((82 : Nat), AVal.int IntKind.i64 (↑N : Int)), ((83 : Nat), AVal.int IntKind.i64 (IntKind.i64.wrap ((↑i : Int) + (1 : Int))))] [{ c := BC.typ (Cont.ints IntKind.i64 out), ver := (0 : Nat) }, { c := BC.typ (Cont.ints IntKind.i64 pts), ver := (0 : Nat) }, { c := BC.typ (Cont.ints IntKind.i64 (List.take q g ++ List.take (1 : Nat) (List.drop (0 : Nat) ((List.replicate (1 : Nat) (0 : Int)).set (0 : Nat) (↑i : Int))))), ver := (0 : Nat) }]) else none else L8 f n n2 (mkS (139 : Nat) [((0 : Nat), AVal.ro (Cont.rows IntKind.i64 W) W.length (1 : Nat)), ((4 : Nat), AVal.int IntKind.i64 (↑N : Int)), ((5 : Nat), AVal.own (0 : Nat) (0 : Nat) N (0 : Nat) (1 : Nat)), ((6 : Nat), AVal.int IntKind.i64 l), ((7 : Nat), AVal.own (1 : Nat) (0 : Nat) N (0 : Nat) (1 : Nat)), ((10 : Nat), AVal.own (2 : Nat) (0 : Nat) q (0 : Nat) (1 : Nat)), ((82 : Nat), AVal.int IntKind.i64 (↑N : Int)), ((83 : Nat), AVal.int IntKind.i64 (IntKind.i64.wrap ((↑i : Int) + (1 : Int))))] [{ c := BC.typ (Cont.ints IntKind.i64 out), ver := (0 : Nat) }, { c := BC.typ (Cont.ints IntKind.i64 pts), ver := (0 : Nat) }, { c := BC.typ (Cont.ints IntKind.i64 g), ver := (0 : Nat) }])) := by kernel_rfl
theorem round12 (W : List (List Int)) (N : Nat) (out : List Int) (pts g : List Int) (l : Int) (q k f n n2 : Nat) :
  L12 f n (n2 + 1) (mkS 139 [(0, .ro (.rows .i64 W) W.length 1), (4, .int .i64 ((N : Nat) : Int)), (5, .own 0 0 N 0 1), (6, .int .i64 l), (7, .own 1 0 N 0 1), (10, .own 2 0 q 0 1), (118, .int .i64 ((q : Nat) : Int)), (119, .int .i64 k)] [⟨.typ (.ints .i64 out), 0⟩, ⟨.typ (.ints .i64 pts), 0⟩, ⟨.typ (.ints .i64 g), 0⟩])
  = (bif decide ((↑k : Int) < (↑q : Int)) then bif true && (decide ((0 : Int) ≤ (↑k : Int)) && decide ((↑k : Int) < (↑q : Int))) then bif true && decide ((↑k : Int).toNat < g.length) then bif true && (decide ((0 : Int) ≤ (↑k : Int)) && decide ((↑k : Int) < (↑q : Int))) then bif true && decide ((↑k : Int).toNat < g.length) then bif true && (decide ((0 : Int) ≤ gz g (↑k : Int).toNat) && decide (gz g (↑k : Int).toNat < (↑N : Int))) then bif true && decide ((gz g (↑k : Int).toNat).toNat < pts.length) then bif true && (decide ((0 : Int) ≤ gz g (↑k : Int).toNat) && decide (gz g (↑k : Int).toNat < (↑N : Int))) then bif true && (true && (decide ((gz g (↑k : Int).toNat).toNat < out.length) && true)) then L12 f n n2 (mkS (139 : Nat) [((0 : Nat), AVal.ro (Cont.rows IntKind.i64 W) W.length (1 : Nat)), ((4 : Nat), AVal.int IntKind.i64 (↑N : Int)), ((5 : Nat), AVal.own (0 : Nat) (0 : Nat) N (0 : Nat) (1 : Nat)), ((6 : Nat), AVal.int IntKind.i64 (IntKind.i64.wrap (l - (1 : Int)))), ((7 : Nat), AVal.own (1 : Nat) (0 : Nat) N (0 : Nat) (1 : Nat)), ((10 : Nat), AVal.own (2 : Nat) (0 : Nat) q (0 : Nat) (1 : Nat)), ((118 : Nat), AVal.int IntKind.i64 (↑q : Int)), ((119 : Nat), AVal.int IntKind.i64 (IntKind.i64.wrap ((↑k : Int) + (1 : Int))))] [{ c := BC.typ (Cont.ints IntKind.i64 (out.set (gz g (↑k : Int).toNat).toNat (gz pts (gz g (↑k : Int).toNat).toNat))), ver := (0 : Nat) }, { c := BC.typ (Cont.ints IntKind.i64 pts), ver := (0 : Nat) }, { c := BC.typ (Cont.ints IntKind.i64 g), ver := (0 : Nat) }]) else none else none else none else none else none else none else none else none else L2 f n (mkS (139 : Nat) [((0 : Nat), AVal.ro (Cont.rows IntKind.i64 W) W.length (1 : Nat)), ((4 : Nat), AVal.int IntKind.i64 (↑N : Int)), ((5 : Nat), AVal.own (0 : Nat) (0 : Nat) N (0 : Nat) (1 : Nat)), ((6 : Nat), AVal.int IntKind.i64 l)] [{ c := BC.typ (Cont.ints IntKind.i64 out), ver := (0 : Nat) }])) := by kernel_rfl
theorem loop0 (W : List (List Int)) (N f : Nat) (hN : N ≤ 8) : ∀ (d i n : Nat), i + d = N → d < n →
    L0 f n (mkS 139 [(0, .ro (.rows .i64 W) W.length 1), (4, .int .i64 ((N : Nat) : Int)), (5, .own 0 0 i 0 1), (22, .int .i64 ((N : Nat) : Int)), (23, .int .i64 ((i : Nat) : Int))] [⟨.typ (.ints .i64 (List.replicate i (-1))), 0⟩]) = L2 f f (mkS 139 [(0, .ro (.rows .i64 W) W.length 1), (4, .int .i64 ((N : Nat) : Int)), (5, .own 0 0 N 0 1), (6, .int .i64 ((N : Nat) : Int))] [⟨.typ (.ints .i64 (List.replicate N (-1))), 0⟩]) := by
  intro d
  induction d with
  | zero =>
    intro i n hi hn
    obtain ⟨n, rfl⟩ : ∃ q, n = q + 1 := ⟨n - 1, by omega⟩
    obtain rfl : i = N := by omega
    rw [round0]
    simp -implicitDefEqProofs (disch := omega) only [take_one, set_one, decide_eq_true, decide_eq_false, IntWalk.i64_in, beqT, beqF, bneT, bneF, nat_succ, ← Int.natCast_mul, ← Int.natCast_add, Int.toNat_natCast, Int.zero_mul, Int.zero_add, Int.add_zero, Nat.zero_add, Nat.add_zero, Nat.zero_mul, List.length_singleton, List.length_append, List.length_nil, List.length_cons, List.take_length, List.drop_zero, List.replicate_zero, List.take_nil, List.nil_append, Nat.reduceBEq, Nat.reduceMul, Nat.reduceLeDiff, eq_self, and_self, true_and, and_true, decide_true, decide_false, Bool.and_self, Bool.or_self, Bool.and_true, Bool.true_and, Bool.and_false, Bool.false_and, Bool.or_true, Bool.true_or, Bool.or_false, Bool.false_or, Bool.not_true, Bool.not_false, cond_true, cond_false]
  | succ d ih =>
    intro i n hi hn
    obtain ⟨n, rfl⟩ : ∃ q, n = q + 1 := ⟨n - 1, by omega⟩
    have g := ih (i + 1) n (by omega) (by omega)
    have tz : (List.replicate i (-1 : Int)).take i = List.replicate i (-1) := List.take_of_length_le (by simp)
    have e : List.replicate i (-1 : Int) ++ [-1] = List.replicate (i + 1) (-1) := by rw [List.replicate_succ']
    rw [round0]
    simp -implicitDefEqProofs (disch := omega) only [tz, e, take_one, set_one, decide_eq_true, decide_eq_false, IntWalk.i64_in, beqT, beqF, bneT, bneF, nat_succ, ← Int.natCast_mul, ← Int.natCast_add, Int.toNat_natCast, Int.zero_mul, Int.zero_add, Int.add_zero, Nat.zero_add, Nat.add_zero, Nat.zero_mul, List.length_singleton, List.length_append, List.length_nil, List.length_cons, List.take_length, List.drop_zero, List.replicate_zero, List.take_nil, List.nil_append, Nat.reduceBEq, Nat.reduceMul, Nat.reduceLeDiff, eq_self, and_self, true_and, and_true, decide_true, decide_false, Bool.and_self, Bool.or_self, Bool.and_true, Bool.true_and, Bool.and_false, Bool.false_and, Bool.or_true, Bool.true_or, Bool.or_false, Bool.false_or, Bool.not_true, Bool.not_false, cond_true, cond_false]
    exact g
theorem loop6 (W : List (List Int)) (N : Nat) (out : List Int) (l : Int) (i f n n2 : Nat) (v : hse.V W N) (hN : W.length = N) (I : hse.Inv W N out) (lc : 0 < hse.cnt out N) (hi : i < N) : ∀ (d k n3 : Nat), k + d = N → d < n3 →
    L6 f n n2 n3 (mkS 139 [(0, .ro (.rows .i64 W) W.length 1), (4, .int .i64 ((N : Nat) : Int)), (5, .own 0 0 N 0 1), (6, .int .i64 l), (7, .own 1 0 N 0 1), (8, .int .i64 ((i : Nat) : Int)), (35, .int .i64 ((N : Nat) : Int)), (36, .int .i64 ((i : Nat) : Int)), (46, .int .i64 ((N : Nat) : Int)), (47, .int .i64 ((k : Nat) : Int))] [⟨.typ (.ints .i64 out), 0⟩, ⟨.typ (.ints .i64 ((hse.pp.sv W out N i).set i (hse.fd W out i k))), 0⟩]) = L4 f n n2 (mkS 139 [(0, .ro (.rows .i64 W) W.length 1), (4, .int .i64 ((N : Nat) : Int)), (5, .own 0 0 N 0 1), (6, .int .i64 l), (7, .own 1 0 N 0 1), (35, .int .i64 ((N : Nat) : Int)), (36, .int .i64 ((i + 1 : Nat) : Int))] [⟨.typ (.ints .i64 out), 0⟩, ⟨.typ (.ints .i64 (hse.pp.sv W out N (i + 1))), 0⟩]) := by
  have h8 := v.h8
  have ol := I.len
  obtain ⟨j0, hj0, hj1⟩ := (hse.cnt_pos N).1 lc
  have hL0 : hse.L out N j0 := ⟨hj0, hj1⟩
  have pl := hse.pp_length W out N i
  have rl := v.rl i hi
  intro d
  induction d with
  | zero =>
    intro k n3 hk hn
    obtain ⟨n3, rfl⟩ : ∃ q, n3 = q + 1 := ⟨n3 - 1, by omega⟩
    obtain rfl : k = N := by omega
    have e := hse.fd_pt v hi hL0
    have e1 := (hse.pt_ok v hi hL0).1
    have e2 := hse.pp_set (W := W) (out := out) hi
    rw [e1] at e2
    rw [e, e2, round6]
    simp -implicitDefEqProofs (disch := omega) only [take_one, set_one, decide_eq_true, decide_eq_false, IntWalk.i64_in, beqT, beqF, bneT, bneF, nat_succ, ← Int.natCast_mul, ← Int.natCast_add, Int.toNat_natCast, Int.zero_mul, Int.zero_add, Int.add_zero, Nat.zero_add, Nat.add_zero, Nat.zero_mul, List.length_singleton, List.length_append, List.length_nil, List.length_cons, List.take_length, List.drop_zero, List.replicate_zero, List.take_nil, List.nil_append, Nat.reduceBEq, Nat.reduceMul, Nat.reduceLeDiff, eq_self, and_self, true_and, and_true, decide_true, decide_false, Bool.and_self, Bool.or_self, Bool.and_true, Bool.true_and, Bool.and_false, Bool.false_and, Bool.or_true, Bool.true_or, Bool.or_false, Bool.false_or, Bool.not_true, Bool.not_false, cond_true, cond_false]
  | succ d ih =>
    intro k n3 hk hn
    obtain ⟨n3, rfl⟩ : ∃ q, n3 = q + 1 := ⟨n3 - 1, by omega⟩
    have g := ih (k + 1) n3 (by omega) (by omega)
    have hg : gz ((hse.pp.sv W out N i).set i (hse.fd W out i k)) i = hse.fd W out i k := by rw [gz_set (by omega), if_pos rfl]
    have hx := v.get hi (k := k) (by omega)
    simp only [hse.fd] at g
    rw [round6]
    by_cases c1 : hse.fd W out i k < 0
    · by_cases c2 : gz out (gz (gr W i) k).toNat < 0
      · simp only [decide_eq_true c1, decide_eq_true c2, cond_true] at g
        simp -implicitDefEqProofs (disch := omega) only [hg, List.length_set, List.set_set, take_one, set_one, decide_eq_true, decide_eq_false, IntWalk.i64_in, beqT, beqF, bneT, bneF, nat_succ, ← Int.natCast_mul, ← Int.natCast_add, Int.toNat_natCast, Int.zero_mul, Int.zero_add, Int.add_zero, Nat.zero_add, Nat.add_zero, Nat.zero_mul, List.length_singleton, List.length_append, List.length_nil, List.length_cons, List.take_length, List.drop_zero, List.replicate_zero, List.take_nil, List.nil_append, Nat.reduceBEq, Nat.reduceMul, Nat.reduceLeDiff, eq_self, and_self, true_and, and_true, decide_true, decide_false, Bool.and_self, Bool.or_self, Bool.and_true, Bool.true_and, Bool.and_false, Bool.false_and, Bool.or_true, Bool.true_or, Bool.or_false, Bool.false_or, Bool.not_true, Bool.not_false, cond_true, cond_false]
        exact g
      · simp only [decide_eq_true c1, decide_eq_false c2, cond_true, cond_false] at g
        simp -implicitDefEqProofs (disch := omega) only [hg, List.length_set, List.set_set, take_one, set_one, decide_eq_true, decide_eq_false, IntWalk.i64_in, beqT, beqF, bneT, bneF, nat_succ, ← Int.natCast_mul, ← Int.natCast_add, Int.toNat_natCast, Int.zero_mul, Int.zero_add, Int.add_zero, Nat.zero_add, Nat.add_zero, Nat.zero_mul, List.length_singleton, List.length_append, List.length_nil, List.length_cons, List.take_length, List.drop_zero, List.replicate_zero, List.take_nil, List.nil_append, Nat.reduceBEq, Nat.reduceMul, Nat.reduceLeDiff, eq_self, and_self, true_and, and_true, decide_true, decide_false, Bool.and_self, Bool.or_self, Bool.and_true, Bool.true_and, Bool.and_false, Bool.false_and, Bool.or_true, Bool.true_or, Bool.or_false, Bool.false_or, Bool.not_true, Bool.not_false, cond_true, cond_false]
        exact g
    · simp only [decide_eq_false c1, cond_false] at g
      simp -implicitDefEqProofs (disch := omega) only [hg, List.length_set, List.set_set, take_one, set_one, decide_eq_true, decide_eq_false, IntWalk.i64_in, beqT, beqF, bneT, bneF, nat_succ, ← Int.natCast_mul, ← Int.natCast_add, Int.toNat_natCast, Int.zero_mul, Int.zero_add, Int.add_zero, Nat.zero_add, Nat.add_zero, Nat.zero_mul, List.length_singleton, List.length_append, List.length_nil, List.length_cons, List.take_length, List.drop_zero, List.replicate_zero, List.take_nil, List.nil_append, Nat.reduceBEq, Nat.reduceMul, Nat.reduceLeDiff, eq_self, and_self, true_and, and_true, decide_true, decide_false, Bool.and_self, Bool.or_self, Bool.and_true, Bool.true_and, Bool.and_false, Bool.false_and, Bool.or_true, Bool.true_or, Bool.or_false, Bool.false_or, Bool.not_true, Bool.not_false, cond_true, cond_false]
      exact g
theorem loop4 (W : List (List Int)) (N : Nat) (out : List Int) (l : Int) (f n : Nat) (hf : 100 < f) (v : hse.V W N) (hN : W.length = N) (I : hse.Inv W N out) (lc : 0 < hse.cnt out N) : ∀ (d i n2 : Nat), i + d = N → d < n2 →
    L4 f n n2 (mkS 139 [(0, .ro (.rows .i64 W) W.length 1), (4, .int .i64 ((N : Nat) : Int)), (5, .own 0 0 N 0 1), (6, .int .i64 l), (7, .own 1 0 N 0 1), (35, .int .i64 ((N : Nat) : Int)), (36, .int .i64 ((i : Nat) : Int))] [⟨.typ (.ints .i64 out), 0⟩, ⟨.typ (.ints .i64 (hse.pp.sv W out N i)), 0⟩]) = L8 f n f (mkS 139 [(0, .ro (.rows .i64 W) W.length 1), (4, .int .i64 ((N : Nat) : Int)), (5, .own 0 0 N 0 1), (6, .int .i64 l), (7, .own 1 0 N 0 1), (10, .own 2 0 0 0 1), (82, .int .i64 ((N : Nat) : Int)), (83, .int .i64 0)] [⟨.typ (.ints .i64 out), 0⟩, ⟨.typ (.ints .i64 (hse.pp.sv W out N N)), 0⟩, ⟨.typ (.ints .i64 []), 0⟩]) := by
  have h8 := v.h8
  have ol := I.len
  obtain ⟨j0, hj0, hj1⟩ := (hse.cnt_pos N).1 lc
  have hL0 : hse.L out N j0 := ⟨hj0, hj1⟩
  intro d
  induction d with
  | zero =>
    intro i n2 hi hn
    obtain ⟨n2, rfl⟩ : ∃ q, n2 = q + 1 := ⟨n2 - 1, by omega⟩
    obtain rfl : i = N := by omega
    rw [round4]
    simp -implicitDefEqProofs (disch := omega) only [hN, take_one, set_one, decide_eq_true, decide_eq_false, IntWalk.i64_in, beqT, beqF, bneT, bneF, nat_succ, ← Int.natCast_mul, ← Int.natCast_add, Int.toNat_natCast, Int.zero_mul, Int.zero_add, Int.add_zero, Nat.zero_add, Nat.add_zero, Nat.zero_mul, List.length_singleton, List.length_append, List.length_nil, List.length_cons, List.take_length, List.drop_zero, List.replicate_zero, List.take_nil, List.nil_append, Nat.reduceBEq, Nat.reduceMul, Nat.reduceLeDiff, eq_self, and_self, true_and, and_true, decide_true, decide_false, Bool.and_self, Bool.or_self, Bool.and_true, Bool.true_and, Bool.and_false, Bool.false_and, Bool.or_true, Bool.true_or, Bool.or_false, Bool.false_or, Bool.not_true, Bool.not_false, cond_true, cond_false]
  | succ d ih =>
    intro i n2 hi hn
    obtain ⟨n2, rfl⟩ : ∃ q, n2 = q + 1 := ⟨n2 - 1, by omega⟩
    have g := ih (i + 1) n2 (by omega) (by omega)
    have pl := hse.pp_length W out N i
    have rl := v.rl i (by omega)
    have g6 := loop6 W N out l i f n n2 v hN I lc (by omega) N 0 f (by omega) (by omega)
    rw [hse.fd] at g6
    rw [round4]
    simp -implicitDefEqProofs (disch := omega) only [rl, take_one, set_one, decide_eq_true, decide_eq_false, IntWalk.i64_in, beqT, beqF, bneT, bneF, nat_succ, ← Int.natCast_mul, ← Int.natCast_add, Int.toNat_natCast, Int.zero_mul, Int.zero_add, Int.add_zero, Nat.zero_add, Nat.add_zero, Nat.zero_mul, List.length_singleton, List.length_append, List.length_nil, List.length_cons, List.take_length, List.drop_zero, List.replicate_zero, List.take_nil, List.nil_append, Nat.reduceBEq, Nat.reduceMul, Nat.reduceLeDiff, eq_self, and_self, true_and, and_true, decide_true, decide_false, Bool.and_self, Bool.or_self, Bool.and_true, Bool.true_and, Bool.and_false, Bool.false_and, Bool.or_true, Bool.true_or, Bool.or_false, Bool.false_or, Bool.not_true, Bool.not_false, cond_true, cond_false]
    exact g6.trans g
theorem loop10 (W : List (List Int)) (N : Nat) (out : List Int) (g : List Int) (l : Int) (i f n n2 : Nat) (v : hse.V W N) (hN : W.length = N) (I : hse.Inv W N out) (lc : 0 < hse.cnt out N) (hi : i < N) (hg : g.length ≤ 100) : ∀ (d k a n3 : Nat), k + d = N → d < n3 → hse.L out N a →
    L10 f n n2 n3 (mkS 139 [(0, .ro (.rows .i64 W) W.length 1), (4, .int .i64 ((N : Nat) : Int)), (5, .own 0 0 N 0 1), (6, .int .i64 l), (7, .own 1 0 N 0 1), (10, .own 2 0 g.length 0 1), (11, .int .i64 ((i : Nat) : Int)), (12, .int .i64 ((a : Nat) : Int)), (13, .int .i64 ((k : Nat) : Int)), (82, .int .i64 ((N : Nat) : Int)), (83, .int .i64 ((i : Nat) : Int))] [⟨.typ (.ints .i64 out), 0⟩, ⟨.typ (.ints .i64 (hse.pp.sv W out N N)), 0⟩, ⟨.typ (.ints .i64 g), 0⟩]) = L8 f n n2 (mkS 139 [(0, .ro (.rows .i64 W) W.length 1), (4, .int .i64 ((N : Nat) : Int)), (5, .own 0 0 N 0 1), (6, .int .i64 l), (7, .own 1 0 N 0 1), (10, .own 2 0 (hse.ad W out g i d ((a : Nat) : Int)).length 0 1), (82, .int .i64 ((N : Nat) : Int)), (83, .int .i64 ((i + 1 : Nat) : Int))] [⟨.typ (.ints .i64 out), 0⟩, ⟨.typ (.ints .i64 (hse.pp.sv W out N N)), 0⟩, ⟨.typ (.ints .i64 (hse.ad W out g i d ((a : Nat) : Int))), 0⟩]) := by
  have h8 := v.h8
  have ol := I.len
  obtain ⟨j0, hj0, hj1⟩ := (hse.cnt_pos N).1 lc
  have hL0 : hse.L out N j0 := ⟨hj0, hj1⟩
  have tz : g.take g.length = g := List.take_of_length_le (Nat.le_refl _)
  have pl := hse.pp_length W out N N
  intro d
  induction d with
  | zero =>
    intro k a n3 hk hn ha
    obtain ⟨n3, rfl⟩ : ∃ q, n3 = q + 1 := ⟨n3 - 1, by omega⟩
    rw [round10]
    simp only [hse.ad, hse.wk]
    cases hc : (a : Int) == (i : Int)
    · simp -implicitDefEqProofs (disch := omega) only [hc, take_one, set_one, decide_eq_true, decide_eq_false, IntWalk.i64_in, beqT, beqF, bneT, bneF, nat_succ, ← Int.natCast_mul, ← Int.natCast_add, Int.toNat_natCast, Int.zero_mul, Int.zero_add, Int.add_zero, Nat.zero_add, Nat.add_zero, Nat.zero_mul, List.length_singleton, List.length_append, List.length_nil, List.length_cons, List.take_length, List.drop_zero, List.replicate_zero, List.take_nil, List.nil_append, Nat.reduceBEq, Nat.reduceMul, Nat.reduceLeDiff, eq_self, and_self, true_and, and_true, decide_true, decide_false, Bool.and_self, Bool.or_self, Bool.and_true, Bool.true_and, Bool.and_false, Bool.false_and, Bool.or_true, Bool.true_or, Bool.or_false, Bool.false_or, Bool.not_true, Bool.not_false, cond_true, cond_false]
    · simp -implicitDefEqProofs (disch := omega) only [hc, tz, take_one, set_one, decide_eq_true, decide_eq_false, IntWalk.i64_in, beqT, beqF, bneT, bneF, nat_succ, ← Int.natCast_mul, ← Int.natCast_add, Int.toNat_natCast, Int.zero_mul, Int.zero_add, Int.add_zero, Nat.zero_add, Nat.add_zero, Nat.zero_mul, List.length_singleton, List.length_append, List.length_nil, List.length_cons, List.take_length, List.drop_zero, List.replicate_zero, List.take_nil, List.nil_append, Nat.reduceBEq, Nat.reduceMul, Nat.reduceLeDiff, eq_self, and_self, true_and, and_true, decide_true, decide_false, Bool.and_self, Bool.or_self, Bool.and_true, Bool.true_and, Bool.and_false, Bool.false_and, Bool.or_true, Bool.true_or, Bool.or_false, Bool.false_or, Bool.not_true, Bool.not_false, cond_true, cond_false]
  | succ d ih =>
    intro k a n3 hk hn ha
    obtain ⟨n3, rfl⟩ : ∃ q, n3 = q + 1 := ⟨n3 - 1, by omega⟩
    obtain ⟨e1, h2, _⟩ := hse.pt_ok v ha.1 ha
    have ha1 := ha.1
    have e2 := hse.pp_get (W := W) (out := out) (i := N) ha1
    rw [if_pos ha1, e1] at e2
    have g4 := ih (k + 1) (hse.F W out a) n3 (by omega) (by omega) h2
    rw [round10]
    simp only [hse.ad, hse.wk] at g4 ⊢
    cases hc : (a : Int) == (i : Int)
    · have hc2 : ((a : Int) != (i : Int)) = true := by simp [bne, hc]
      rw [cond_false, e1]
      simp -implicitDefEqProofs (disch := omega) only [hc2, e2, take_one, set_one, decide_eq_true, decide_eq_false, IntWalk.i64_in, beqT, beqF, bneT, bneF, nat_succ, ← Int.natCast_mul, ← Int.natCast_add, Int.toNat_natCast, Int.zero_mul, Int.zero_add, Int.add_zero, Nat.zero_add, Nat.add_zero, Nat.zero_mul, List.length_singleton, List.length_append, List.length_nil, List.length_cons, List.take_length, List.drop_zero, List.replicate_zero, List.take_nil, List.nil_append, Nat.reduceBEq, Nat.reduceMul, Nat.reduceLeDiff, eq_self, and_self, true_and, and_true, decide_true, decide_false, Bool.and_self, Bool.or_self, Bool.and_true, Bool.true_and, Bool.and_false, Bool.false_and, Bool.or_true, Bool.true_or, Bool.or_false, Bool.false_or, Bool.not_true, Bool.not_false, cond_true, cond_false]
      exact g4
    · have hc2 : ((a : Int) != (i : Int)) = false := by simp [bne, hc]
      simp only [cond_true, hc]
      simp -implicitDefEqProofs (disch := omega) only [hc, hc2, tz, take_one, set_one, decide_eq_true, decide_eq_false, IntWalk.i64_in, beqT, beqF, bneT, bneF, nat_succ, ← Int.natCast_mul, ← Int.natCast_add, Int.toNat_natCast, Int.zero_mul, Int.zero_add, Int.add_zero, Nat.zero_add, Nat.add_zero, Nat.zero_mul, List.length_singleton, List.length_append, List.length_nil, List.length_cons, List.take_length, List.drop_zero, List.replicate_zero, List.take_nil, List.nil_append, Nat.reduceBEq, Nat.reduceMul, Nat.reduceLeDiff, eq_self, and_self, true_and, and_true, decide_true, decide_false, Bool.and_self, Bool.or_self, Bool.and_true, Bool.true_and, Bool.and_false, Bool.false_and, Bool.or_true, Bool.true_or, Bool.or_false, Bool.false_or, Bool.not_true, Bool.not_false, cond_true, cond_false]
theorem loop8 (W : List (List Int)) (N : Nat) (out : List Int) (l : Int) (f n : Nat) (hf : 100 < f) (v : hse.V W N) (hN : W.length = N) (I : hse.Inv W N out) (lc : 0 < hse.cnt out N) : ∀ (d i n2 : Nat), i + d = N → d < n2 →
    L8 f n n2 (mkS 139 [(0, .ro (.rows .i64 W) W.length 1), (4, .int .i64 ((N : Nat) : Int)), (5, .own 0 0 N 0 1), (6, .int .i64 l), (7, .own 1 0 N 0 1), (10, .own 2 0 (hse.gn W out N i).length 0 1), (82, .int .i64 ((N : Nat) : Int)), (83, .int .i64 ((i : Nat) : Int))] [⟨.typ (.ints .i64 out), 0⟩, ⟨.typ (.ints .i64 (hse.pp.sv W out N N)), 0⟩, ⟨.typ (.ints .i64 (hse.gn W out N i)), 0⟩]) = L12 f n f (mkS 139 [(0, .ro (.rows .i64 W) W.length 1), (4, .int .i64 ((N : Nat) : Int)), (5, .own 0 0 N 0 1), (6, .int .i64 l), (7, .own 1 0 N 0 1), (10, .own 2 0 (hse.gn W out N N).length 0 1), (118, .int .i64 (((hse.gn W out N N).length : Nat) : Int)), (119, .int .i64 0)] [⟨.typ (.ints .i64 out), 0⟩, ⟨.typ (.ints .i64 (hse.pp.sv W out N N)), 0⟩, ⟨.typ (.ints .i64 (hse.gn W out N N)), 0⟩]) := by
  have h8 := v.h8
  have ol := I.len
  obtain ⟨j0, hj0, hj1⟩ := (hse.cnt_pos N).1 lc
  have hL0 : hse.L out N j0 := ⟨hj0, hj1⟩
  have pl := hse.pp_length W out N N
  intro d
  induction d with
  | zero =>
    intro i n2 hi hn
    obtain ⟨n2, rfl⟩ : ∃ q, n2 = q + 1 := ⟨n2 - 1, by omega⟩
    obtain rfl : i = N := by omega
    rw [round8]
    simp -implicitDefEqProofs (disch := omega) only [take_one, set_one, decide_eq_true, decide_eq_false, IntWalk.i64_in, beqT, beqF, bneT, bneF, nat_succ, ← Int.natCast_mul, ← Int.natCast_add, Int.toNat_natCast, Int.zero_mul, Int.zero_add, Int.add_zero, Nat.zero_add, Nat.add_zero, Nat.zero_mul, List.length_singleton, List.length_append, List.length_nil, List.length_cons, List.take_length, List.drop_zero, List.replicate_zero, List.take_nil, List.nil_append, Nat.reduceBEq, Nat.reduceMul, Nat.reduceLeDiff, eq_self, and_self, true_and, and_true, decide_true, decide_false, Bool.and_self, Bool.or_self, Bool.and_true, Bool.true_and, Bool.and_false, Bool.false_and, Bool.or_true, Bool.true_or, Bool.or_false, Bool.false_or, Bool.not_true, Bool.not_false, cond_true, cond_false]
  | succ d ih =>
    intro i n2 hi hn
    obtain ⟨n2, rfl⟩ : ∃ q, n2 = q + 1 := ⟨n2 - 1, by omega⟩
    have g := ih (i + 1) n2 (by omega) (by omega)
    have gl := hse.gn_length (W := W) (out := out) (n := N) i
    rw [round8]
    by_cases c : gz out i < 0
    · have hL : hse.L out N i := ⟨by omega, c⟩
      obtain ⟨e1, h2, _⟩ := hse.pt_ok v hL.1 hL
      have e2 := hse.pp_get (W := W) (out := out) (i := N) hL.1
      rw [if_pos hL.1, e1] at e2
      have g4 := loop10 W N out (hse.gn W out N i) l i f n n2 v hN I lc (by omega) (by omega) N 0 (hse.F W out i) f (by omega) (by omega) h2
      rw [← e1, hse.ad_gn c, e1] at g4
      simp -implicitDefEqProofs (disch := omega) only [e2, take_one, set_one, decide_eq_true, decide_eq_false, IntWalk.i64_in, beqT, beqF, bneT, bneF, nat_succ, ← Int.natCast_mul, ← Int.natCast_add, Int.toNat_natCast, Int.zero_mul, Int.zero_add, Int.add_zero, Nat.zero_add, Nat.add_zero, Nat.zero_mul, List.length_singleton, List.length_append, List.length_nil, List.length_cons, List.take_length, List.drop_zero, List.replicate_zero, List.take_nil, List.nil_append, Nat.reduceBEq, Nat.reduceMul, Nat.reduceLeDiff, eq_self, and_self, true_and, and_true, decide_true, decide_false, Bool.and_self, Bool.or_self, Bool.and_true, Bool.true_and, Bool.and_false, Bool.false_and, Bool.or_true, Bool.true_or, Bool.or_false, Bool.false_or, Bool.not_true, Bool.not_false, cond_true, cond_false]
      exact g4.trans g
    · rw [hse.gn_not c] at g
      simp -implicitDefEqProofs (disch := omega) only [take_one, set_one, decide_eq_true, decide_eq_false, IntWalk.i64_in, beqT, beqF, bneT, bneF, nat_succ, ← Int.natCast_mul, ← Int.natCast_add, Int.toNat_natCast, Int.zero_mul, Int.zero_add, Int.add_zero, Nat.zero_add, Nat.add_zero, Nat.zero_mul, List.length_singleton, List.length_append, List.length_nil, List.length_cons, List.take_length, List.drop_zero, List.replicate_zero, List.take_nil, List.nil_append, Nat.reduceBEq, Nat.reduceMul, Nat.reduceLeDiff, eq_self, and_self, true_and, and_true, decide_true, decide_false, Bool.and_self, Bool.or_self, Bool.and_true, Bool.true_and, Bool.and_false, Bool.false_and, Bool.or_true, Bool.true_or, Bool.or_false, Bool.false_or, Bool.not_true, Bool.not_false, cond_true, cond_false]
      exact g
theorem loop12 (W : List (List Int)) (N : Nat) (out : List Int) (c : Nat) (hc : c ≤ 100) (f n : Nat) (v : hse.V W N) (hN : W.length = N) (I : hse.Inv W N out) (lc : 0 < hse.cnt out N) (hcg : (hse.gn W out N N).length ≤ c) : ∀ (d k n2 : Nat), k + d = (hse.gn W out N N).length → d < n2 →
    L12 f n n2 (mkS 139 [(0, .ro (.rows .i64 W) W.length 1), (4, .int .i64 ((N : Nat) : Int)), (5, .own 0 0 N 0 1), (6, .int .i64 (((c : Nat) : Int) - ((k : Nat) : Int))), (7, .own 1 0 N 0 1), (10, .own 2 0 (hse.gn W out N N).length 0 1), (118, .int .i64 (((hse.gn W out N N).length : Nat) : Int)), (119, .int .i64 ((k : Nat) : Int))] [⟨.typ (.ints .i64 (hse.us W out (hse.gn W out N N) k)), 0⟩, ⟨.typ (.ints .i64 (hse.pp.sv W out N N)), 0⟩, ⟨.typ (.ints .i64 (hse.gn W out N N)), 0⟩]) = L2 f n (mkS 139 [(0, .ro (.rows .i64 W) W.length 1), (4, .int .i64 ((N : Nat) : Int)), (5, .own 0 0 N 0 1), (6, .int .i64 (((c : Nat) : Int) - (((hse.gn W out N N).length : Nat) : Int)))] [⟨.typ (.ints .i64 (hse.us W out (hse.gn W out N N) (hse.gn W out N N).length)), 0⟩]) := by
  have h8 := v.h8
  have ol := I.len
  obtain ⟨j0, hj0, hj1⟩ := (hse.cnt_pos N).1 lc
  have hL0 : hse.L out N j0 := ⟨hj0, hj1⟩
  have pl := hse.pp_length W out N N
  have gl := hse.gn_length (W := W) (out := out) (n := N) N
  intro d
  induction d with
  | zero =>
    intro k n2 hk hn
    obtain ⟨n2, rfl⟩ : ∃ q, n2 = q + 1 := ⟨n2 - 1, by omega⟩
    have hk2 : k = (hse.gn W out N N).length := by omega
    subst hk2
    rw [round12]
    simp -implicitDefEqProofs (disch := omega) only [take_one, set_one, decide_eq_true, decide_eq_false, IntWalk.i64_in, beqT, beqF, bneT, bneF, nat_succ, ← Int.natCast_mul, ← Int.natCast_add, Int.toNat_natCast, Int.zero_mul, Int.zero_add, Int.add_zero, Nat.zero_add, Nat.add_zero, Nat.zero_mul, List.length_singleton, List.length_append, List.length_nil, List.length_cons, List.take_length, List.drop_zero, List.replicate_zero, List.take_nil, List.nil_append, Nat.reduceBEq, Nat.reduceMul, Nat.reduceLeDiff, eq_self, and_self, true_and, and_true, decide_true, decide_false, Bool.and_self, Bool.or_self, Bool.and_true, Bool.true_and, Bool.and_false, Bool.false_and, Bool.or_true, Bool.true_or, Bool.or_false, Bool.false_or, Bool.not_true, Bool.not_false, cond_true, cond_false]
  | succ d ih =>
    intro k n2 hk hn
    obtain ⟨n2, rfl⟩ : ∃ q, n2 = q + 1 := ⟨n2 - 1, by omega⟩
    have g := ih (k + 1) n2 (by omega) (by omega)
    obtain ⟨i, hi, e, h1⟩ := hse.gn_get (W := W) (out := out) (n := N) (m := N) (k := k) (by omega)
    have e2 := hse.pp_get (W := W) (out := out) (i := N) hi
    rw [if_pos hi] at e2
    have ul := hse.us_length W out (hse.gn W out N N) k
    have wl : (c : Int) - (k : Int) - 1 = (c : Int) - ((k + 1 : Nat) : Int) := by omega
    rw [hse.us, e, Int.toNat_natCast] at g
    rw [round12]
    simp -implicitDefEqProofs (disch := omega) only [e, e2, wl, take_one, set_one, decide_eq_true, decide_eq_false, IntWalk.i64_in, beqT, beqF, bneT, bneF, nat_succ, ← Int.natCast_mul, ← Int.natCast_add, Int.toNat_natCast, Int.zero_mul, Int.zero_add, Int.add_zero, Nat.zero_add, Nat.add_zero, Nat.zero_mul, List.length_singleton, List.length_append, List.length_nil, List.length_cons, List.take_length, List.drop_zero, List.replicate_zero, List.take_nil, List.nil_append, Nat.reduceBEq, Nat.reduceMul, Nat.reduceLeDiff, eq_self, and_self, true_and, and_true, decide_true, decide_false, Bool.and_self, Bool.or_self, Bool.and_true, Bool.true_and, Bool.and_false, Bool.false_and, Bool.or_true, Bool.true_or, Bool.or_false, Bool.false_or, Bool.not_true, Bool.not_false, cond_true, cond_false]
    exact g
theorem loop2 (W : List (List Int)) (N f : Nat) (hf : 100 < f) (v : hse.V W N) (hN : W.length = N) : ∀ (c n : Nat) (out : List Int), hse.Inv W N out → hse.cnt out N ≤ c → c < n →
    L2 f n (mkS 139 [(0, .ro (.rows .i64 W) W.length 1), (4, .int .i64 ((N : Nat) : Int)), (5, .own 0 0 N 0 1), (6, .int .i64 ((hse.cnt out N : Nat) : Int))] [⟨.typ (.ints .i64 out), 0⟩]) = some (.tup [.own 0 0 N 0 1, .bool true], [⟨.typ (.ints .i64 (hse.fin W N c out)), 0⟩]) := by
  have h8 := v.h8
  have fin : ∀ (n : Nat) (out : List Int), ¬ 0 < hse.cnt out N → L2 f (n + 1) (mkS 139 [(0, .ro (.rows .i64 W) W.length 1), (4, .int .i64 ((N : Nat) : Int)), (5, .own 0 0 N 0 1), (6, .int .i64 ((hse.cnt out N : Nat) : Int))] [⟨.typ (.ints .i64 out), 0⟩]) = some (.tup [.own 0 0 N 0 1, .bool true], [⟨.typ (.ints .i64 out), 0⟩]) := by
    intro n out hc
    rw [round2]
    simp -implicitDefEqProofs (disch := omega) only [take_one, set_one, decide_eq_true, decide_eq_false, IntWalk.i64_in, beqT, beqF, bneT, bneF, nat_succ, ← Int.natCast_mul, ← Int.natCast_add, Int.toNat_natCast, Int.zero_mul, Int.zero_add, Int.add_zero, Nat.zero_add, Nat.add_zero, Nat.zero_mul, List.length_singleton, List.length_append, List.length_nil, List.length_cons, List.take_length, List.drop_zero, List.replicate_zero, List.take_nil, List.nil_append, Nat.reduceBEq, Nat.reduceMul, Nat.reduceLeDiff, eq_self, and_self, true_and, and_true, decide_true, decide_false, Bool.and_self, Bool.or_self, Bool.and_true, Bool.true_and, Bool.and_false, Bool.false_and, Bool.or_true, Bool.true_or, Bool.or_false, Bool.false_or, Bool.not_true, Bool.not_false, cond_true, cond_false]
  intro c
  induction c with
  | zero =>
    intro n out I hc hn
    obtain ⟨n, rfl⟩ : ∃ q, n = q + 1 := ⟨n - 1, by omega⟩
    exact fin n out (by omega)
  | succ c ih =>
    intro n out I hc hn
    obtain ⟨n, rfl⟩ : ∃ q, n = q + 1 := ⟨n - 1, by omega⟩
    simp only [hse.fin]
    by_cases lc : 0 < hse.cnt out N
    · have a := hse.rd_cnt v I.len
      have b := hse.gn_some v I.len lc
      have gl := hse.gn_length (W := W) (out := out) (n := N) N
      have cl := hse.cnt_le out N
      have g := ih n _ (I.step v) (by omega) (by omega)
      have g4 := loop4 W N out (hse.cnt out N) f n hf v hN I lc N 0 f (by omega) (by omega)
      have g8 := loop8 W N out (hse.cnt out N) f n hf v hN I lc N 0 f (by omega) (by omega)
      have g12 := loop12 W N out (hse.cnt out N) (by omega) f n v hN I lc (by omega) (hse.gn W out N N).length 0 f (by omega) (by omega)
      have ec : ((hse.cnt out N : Nat) : Int) - (((hse.gn W out N N).length : Nat) : Int) = ((hse.cnt (hse.rd W N out) N : Nat) : Int) := by omega
      have hN2 : ((W.length : Nat) : Int) = ((N : Nat) : Int) := by rw [hN]
      have e0 : ((hse.cnt out N : Nat) : Int) - ((0 : Nat) : Int) = ((hse.cnt out N : Nat) : Int) := by omega
      rw [hse.pp_zero] at g4
      rw [ec, e0] at g12
      rw [decide_eq_true lc, cond_true, round2]
      simp -implicitDefEqProofs (disch := omega) only [hN2, take_one, set_one, decide_eq_true, decide_eq_false, IntWalk.i64_in, beqT, beqF, bneT, bneF, nat_succ, ← Int.natCast_mul, ← Int.natCast_add, Int.toNat_natCast, Int.zero_mul, Int.zero_add, Int.add_zero, Nat.zero_add, Nat.add_zero, Nat.zero_mul, List.length_singleton, List.length_append, List.length_nil, List.length_cons, List.take_length, List.drop_zero, List.replicate_zero, List.take_nil, List.nil_append, Nat.reduceBEq, Nat.reduceMul, Nat.reduceLeDiff, eq_self, and_self, true_and, and_true, decide_true, decide_false, Bool.and_self, Bool.or_self, Bool.and_true, Bool.true_and, Bool.and_false, Bool.false_and, Bool.or_true, Bool.true_or, Bool.or_false, Bool.false_or, Bool.not_true, Bool.not_false, cond_true, cond_false]
      exact g4.trans (g8.trans (g12.trans g))
    · rw [decide_eq_false lc, cond_false]
      exact fin n out lc
theorem run : ∀ args v new, R args = some (true, v, new) → ∃ fuel, regc [0] (runFn Try.prog (orc [⟨100, l05Whole.R⟩]) hd Dr.std none fuel (bodyOf Try.f40) 139 [2, 3] args []) = some (v, new) := by
  intro args v new h
  unfold R at h
  split at h
  · rename_i W m
    simp only [Option.some.injEq, Prod.mk.injEq, Bool.and_eq_true, decide_eq_true_eq] at h
    obtain ⟨⟨rfl, hs⟩, rfl, rfl⟩ := h
    have v := hse.valid hs
    have h1 := v.h1
    have h8 := v.h8
    obtain ⟨F, hF⟩ : ∃ F : Nat, F = 200 := ⟨200, rfl⟩
    refine ⟨F, ?_⟩
    have hc : hse.cnt (List.replicate W.length (-1)) W.length = W.length := by
      have key : ∀ n, n ≤ W.length → hse.cnt (List.replicate W.length (-1)) n = n := by
        intro n
        induction n with
        | zero => intro _; rfl
        | succ n ih =>
          intro hn
          have : gz (List.replicate W.length (-1)) n = -1 := by rw [gz_eq (by simp; omega)]; simp
          simp only [hse.cnt, ih (by omega), this]
          rfl
      exact key _ (Nat.le_refl _)
    have g0 := loop0 W W.length F h8 W.length 0 F (by omega) (by omega)
    have g := loop2 W W.length F (by omega) v rfl W.length F _ hse.Inv.start (hse.cnt_le _ _) (by omega)
    rw [hc] at g
    rw [start]
    simp -implicitDefEqProofs (disch := omega) only [hs, take_one, set_one, decide_eq_true, decide_eq_false, IntWalk.i64_in, beqT, beqF, bneT, bneF, nat_succ, ← Int.natCast_mul, ← Int.natCast_add, Int.toNat_natCast, Int.zero_mul, Int.zero_add, Int.add_zero, Nat.zero_add, Nat.add_zero, Nat.zero_mul, List.length_singleton, List.length_append, List.length_nil, List.length_cons, List.take_length, List.drop_zero, List.replicate_zero, List.take_nil, List.nil_append, Nat.reduceBEq, Nat.reduceMul, Nat.reduceLeDiff, eq_self, and_self, true_and, and_true, decide_true, decide_false, Bool.and_self, Bool.or_self, Bool.and_true, Bool.true_and, Bool.and_false, Bool.false_and, Bool.or_true, Bool.true_or, Bool.or_false, Bool.false_or, Bool.not_true, Bool.not_false, cond_true, cond_false]
    exact (congrArg (regc [0]) (g0.trans g)).trans rfl
  · cases h
theorem ok : EntOk Try.prog ⟨40, R⟩ :=
  ent_okAG (ks := [0]) mixed (A := (orc [⟨100, l05Whole.R⟩])) (orc_ok (by simp only [List.mem_cons, List.not_mem_nil, or_false, forall_eq_or_imp, forall_eq]; exact l05Whole.ok)) Try.func40 (by kernel_rfl) (by kernel_rfl) (n := 139) (ts := [2, 3]) (hd := hd) (dr := Dr.std) (cut := none) (by kernel_rfl) (by kernel_rfl) (by kernel_rfl) run
end sHouseRounds

end Go.Proofs.Ytkoongajnnaeoaa.Ab
