/-
  Functions: rims of bargains, whole.
-/
import Derived.Test.YtadpndpbooofiaaFnRA
namespace Go.Proofs.Ytadpndpbooofiaa.Ab
open Go
set_option linter.unusedVariables false
set_option linter.unusedSimpArgs false
set_option maxRecDepth 100000

namespace rm
/-- The reference looks at differences. -/
def d.sp (p q : Int) : Bool := (decide (0 ≤ p) && decide (0 ≤ q)) && decide (0 < p + q)
theorem d_eq (xs : List Int) (i k : Nat) : rm.d.sp (gz xs (2 * k) - gz xs (2 * i)) (gz xs (2 * k + 1) - gz xs (2 * i + 1)) = rm.w.sp xs i k := by
  unfold rm.d.sp rm.w.sp
  generalize gz xs (2 * k) = a
  generalize gz xs (2 * i) = b
  generalize gz xs (2 * k + 1) = c
  generalize gz xs (2 * i + 1) = e
  rw [Bool.eq_iff_iff]
  simp only [Bool.and_eq_true, Bool.or_eq_true, decide_eq_true_eq]
  omega
theorem bnd {xs : List Int} (v : ∀ x ∈ xs, 0 ≤ x ∧ x ≤ 1000) (i : Nat) : 0 ≤ gz xs i ∧ gz xs i ≤ 1000 := by
  by_cases h : i < xs.length
  · rw [gz_eq h]; exact v _ (List.getElem_mem h)
  · have : gz xs i = 0 := by unfold gz; rw [List.getD_eq_getElem?_getD, List.getElem?_eq_none (by omega)]; rfl
    omega
theorem sv_length (xs : List Int) : (rm.sv xs).length ≤ xs.length / 2 := rm.fl_length _ _
end rm

namespace sRimOf_t
def R : List AVal → Option (Bool × AVal × List Blk)
  | [.ro (.ints .i64 xs) m 1] => some (decide (m = xs.length ∧ m ≤ 4611686018427387904) && l07Points.sp xs, .tup [.own 0 0 (rm.sv xs).length 0 1, .bool true], [⟨.typ (.ints .i64 (rm.sv xs)), 0⟩])
  | _ => none
def hd : Nat → Head := fun i => bif eqN i 2 then ⟨[0, 4, 5, 6, 7], some 1⟩ else ⟨[0, 4, 5], some 1⟩
noncomputable def L1 (f n : Nat) (s : State) := loopAt Try.prog (orc [⟨24, l07Points.R⟩]) hd Dr.std 0 f (bodyOf Try.f7) 0 [true, true, true, false, true] (retK Try.prog [2, 3] 0 none) n s
noncomputable def L2 (f n n2 : Nat) (s : State) := loopAt Try.prog (orc [⟨24, l07Points.R⟩]) hd Dr.std 0 f (bodyAt (bodyOf Try.f7) [true, true, true, false, true]) (curAt (bodyOf Try.f7) 0 [true, true, true, false, true]) [true, false, true, false, true] (iterK (normE 0 (hd (curAt (bodyOf Try.f7) 0 [true, true, true, false, true]))) (L1 f n) (contAt Try.prog (orc [⟨24, l07Points.R⟩]) hd Dr.std 0 f (bodyOf Try.f7) 0 [true, true, true, false, true] (retK Try.prog [2, 3] 0 none))) n2 s
theorem start (xs : List Int) (f : Nat) :
  runFn Try.prog (orc [⟨24, l07Points.R⟩]) hd Dr.std none f (bodyOf Try.f7) 65 [2, 3] [.ro (.ints .i64 xs) xs.length 1] []
  = (bif decide (xs.length ≤ xs.length ∧ xs.length ≤ (4611686018427387904 : Nat)) && (true && true || true && true) then bif !l07Points.sp (List.take xs.length xs) then some (AVal.tup [AVal.nils, AVal.bool false], []) else L1 f f (mkS (65 : Nat) [((0 : Nat), AVal.ro (Cont.ints IntKind.i64 xs) xs.length (1 : Nat)), ((4 : Nat), AVal.own (0 : Nat) (0 : Nat) (0 : Nat) (0 : Nat) (1 : Nat)), ((5 : Nat), AVal.int IntKind.i64 (0 : Int))] [{ c := BC.typ (Cont.ints IntKind.i64 (List.replicate (0 : Nat) (0 : Int))), ver := (0 : Nat) }]) else none) := by kernel_rfl
theorem round1 (xs : List Int) (zs : List Int) (q i f n : Nat) :
  L1 f (n + 1) (mkS 65 [(0, .ro (.ints .i64 xs) xs.length 1), (4, .own 0 0 q 0 1), (5, .int .i64 i)] [⟨.typ (.ints .i64 zs), 0⟩])
  = (bif decide ((↑i : Int) < (↑xs.length : Int)) then L2 f n f (mkS (65 : Nat) [((0 : Nat), AVal.ro (Cont.ints IntKind.i64 xs) xs.length (1 : Nat)), ((4 : Nat), AVal.own (0 : Nat) (0 : Nat) q (0 : Nat) (1 : Nat)), ((5 : Nat), AVal.int IntKind.i64 (↑i : Int)), ((6 : Nat), AVal.bool true), ((7 : Nat), AVal.int IntKind.i64 (0 : Int))] [{ c := BC.typ (Cont.ints IntKind.i64 zs), ver := (0 : Nat) }]) else some (AVal.tup [AVal.own (0 : Nat) (0 : Nat) q (0 : Nat) (1 : Nat), AVal.bool true], [{ c := BC.typ (Cont.ints IntKind.i64 zs), ver := (0 : Nat) }])) := by kernel_rfl
theorem round2 (xs : List Int) (zs : List Int) (q i k : Nat) (b : Bool) (f n n2 : Nat) :
  L2 f n (n2 + 1) (mkS 65 [(0, .ro (.ints .i64 xs) xs.length 1), (4, .own 0 0 q 0 1), (5, .int .i64 i), (6, .bool b), (7, .int .i64 k)] [⟨.typ (.ints .i64 zs), 0⟩])
  = (bif decide ((↑k : Int) < (↑xs.length : Int)) then bif true && (decide ((0 : Int) ≤ (↑k : Int)) && decide ((↑k : Int) < (↑xs.length : Int))) then bif decide ((↑k : Int).toNat < xs.length) then bif true && (decide ((0 : Int) ≤ (↑i : Int)) && decide ((↑i : Int) < (↑xs.length : Int))) then bif decide ((↑i : Int).toNat < xs.length) then bif true && (decide ((0 : Int) ≤ IntKind.i64.wrap ((↑k : Int) + (1 : Int))) && decide (IntKind.i64.wrap ((↑k : Int) + (1 : Int)) < (↑xs.length : Int))) then bif decide ((IntKind.i64.wrap ((↑k : Int) + (1 : Int))).toNat < xs.length) then bif true && (decide ((0 : Int) ≤ IntKind.i64.wrap ((↑i : Int) + (1 : Int))) && decide (IntKind.i64.wrap ((↑i : Int) + (1 : Int)) < (↑xs.length : Int))) then bif decide ((IntKind.i64.wrap ((↑i : Int) + (1 : Int))).toNat < xs.length) then bif decide ((0 : Int) ≤ IntKind.i64.wrap (gz xs (↑k : Int).toNat - gz xs (↑i : Int).toNat)) then bif decide ((0 : Int) ≤ IntKind.i64.wrap (gz xs (IntKind.i64.wrap ((↑k : Int) + (1 : Int))).toNat - gz xs (IntKind.i64.wrap ((↑i : Int) + (1 : Int))).toNat)) then bif decide ((0 : Int) < IntKind.i64.wrap (IntKind.i64.wrap (gz xs (↑k : Int).toNat - gz xs (↑i : Int).toNat) + IntKind.i64.wrap (gz xs (IntKind.i64.wrap ((↑k : Int) + (1 : Int))).toNat - gz xs (IntKind.i64.wrap ((↑i : Int) + (1 : Int))).toNat))) then L2 f n n2 (mkS (65 : Nat) [((0 : Nat), AVal.ro (Cont.ints IntKind.i64 xs) xs.length (1 : Nat)), ((4 : Nat), AVal.own (0 : Nat) (0 : Nat) q (0 : Nat) (1 : Nat)), ((5 : Nat), AVal.int IntKind.i64 (↑i : Int)), ((6 : Nat), AVal.bool false), ((7 : Nat), AVal.int IntKind.i64 (IntKind.i64.wrap ((↑k : Int) + (2 : Int))))] [{ c := BC.typ (Cont.ints IntKind.i64 zs), ver := (0 : Nat) }]) else L2 f n n2 (mkS (65 : Nat) [((0 : Nat), AVal.ro (Cont.ints IntKind.i64 xs) xs.length (1 : Nat)), ((4 : Nat), AVal.own (0 : Nat) (0 : Nat) q (0 : Nat) (1 : Nat)), ((5 : Nat), AVal.int IntKind.i64 (↑i : Int)), ((6 : Nat), AVal.bool b), ((7 : Nat), AVal.int IntKind.i64 (IntKind.i64.wrap ((↑k : Int) + (2 : Int))))] [{ c := BC.typ (Cont.ints IntKind.i64 zs), ver := (0 : Nat) }]) else L2 f n n2 (mkS (65 : Nat) [((0 : Nat), AVal.ro (Cont.ints IntKind.i64 xs) xs.length (1 : Nat)), ((4 : Nat), AVal.own (0 : Nat) (0 : Nat) q (0 : Nat) (1 : Nat)), ((5 : Nat), AVal.int IntKind.i64 (↑i : Int)), ((6 : Nat), AVal.bool b), ((7 : Nat), AVal.int IntKind.i64 (IntKind.i64.wrap ((↑k : Int) + (2 : Int))))] [{ c := BC.typ (Cont.ints IntKind.i64 zs), ver := (0 : Nat) }]) else L2 f n n2 (mkS (65 : Nat) [((0 : Nat), AVal.ro (Cont.ints IntKind.i64 xs) xs.length (1 : Nat)), ((4 : Nat), AVal.own (0 : Nat) (0 : Nat) q (0 : Nat) (1 : Nat)), ((5 : Nat), AVal.int IntKind.i64 (↑i : Int)), ((6 : Nat), AVal.bool b), ((7 : Nat), AVal.int IntKind.i64 (IntKind.i64.wrap ((↑k : Int) + (2 : Int))))] [{ c := BC.typ (Cont.ints IntKind.i64 zs), ver := (0 : Nat) }]) else none else none else none else none else none else none else none else none else bif b then bif (1 : Nat) == (1 : Nat) && (1 : Nat) == (1 : Nat) && (true && (true && true) && (true && true && (decide (q + (List.take (1 : Nat) (List.drop (0 : Nat) ((List.replicate (1 : Nat) (0 : Int)).set (0 : Nat) (IntKind.i64.wrap ((↑i : Int).tdiv (2 : Int)))))).length ≤ (4611686018427387904 : Nat)) && decide ((q + (List.take (1 : Nat) (List.drop (0 : Nat) ((List.replicate (1 : Nat) (0 : Int)).set (0 : Nat) (IntKind.i64.wrap ((↑i : Int).tdiv (2 : Int)))))).length) * (8 : Nat) ≤ (140737488355328 : Nat))))) then L1 f n (mkS (65 : Nat) [((0 : Nat), AVal.ro (Cont.ints IntKind.i64 xs) xs.length (1 : Nat)), ((4 : Nat), AVal.own (0 : Nat) (0 : Nat) (q + (List.take (1 : Nat) (List.drop (0 : Nat) ((List.replicate (1 : Nat) (0 : Int)).set (0 : Nat) (IntKind.i64.wrap ((↑i : Int).tdiv (2 : Int)))))).length) (0 : Nat) (1 : Nat)), ((5 : Nat), AVal.int IntKind.i64 (IntKind.i64.wrap ((↑i : Int) + (2 : Int))))] [{ c := BC.typ (Cont.ints IntKind.i64 (List.take q zs ++ List.take (1 : Nat) (List.drop (0 : Nat) ((List.replicate (1 : Nat) (0 : Int)).set (0 : Nat) (IntKind.i64.wrap ((↑i : Int).tdiv (2 : Int))))))), ver := (0 : Nat) }]) else none else L1 f n (mkS (65 : Nat) [((0 : Nat), AVal.ro (Cont.ints IntKind.i64 xs) xs.length (1 : Nat)), ((4 : Nat), AVal.own (0 : Nat) (0 : Nat) q (0 : Nat) (1 : Nat)), ((5 : Nat), AVal.int IntKind.i64 (IntKind.i64.wrap ((↑i : Int) + (2 : Int))))] [{ c := BC.typ (Cont.ints IntKind.i64 zs), ver := (0 : Nat) }])) := by kernel_rfl
theorem inner (xs : List Int) (N : Nat) (hx : xs.length = 2 * N) (hN : N ≤ 16) (v : ∀ x ∈ xs, 0 ≤ x ∧ x ≤ 1000) (zs : List Int) (q i f n : Nat) (hi : i < N) (hq : zs.length = q) (hq2 : q ≤ 16) : ∀ (d k n2 : Nat) (b : Bool), k + d = N → d < n2 →
    L2 f n n2 (mkS 65 [(0, .ro (.ints .i64 xs) xs.length 1), (4, .own 0 0 q 0 1), (5, .int .i64 ((2 * i : Nat) : Int)), (6, .bool (b)), (7, .int .i64 ((2 * k : Nat) : Int))] [⟨.typ (.ints .i64 zs), 0⟩]) = bif (b && !((List.range N).drop k).any (rm.w.sp xs i)) then L1 f n (mkS 65 [(0, .ro (.ints .i64 xs) xs.length 1), (4, .own 0 0 (q + 1) 0 1), (5, .int .i64 ((2 * (i + 1) : Nat) : Int))] [⟨.typ (.ints .i64 (zs ++ [(i : Int)])), 0⟩]) else L1 f n (mkS 65 [(0, .ro (.ints .i64 xs) xs.length 1), (4, .own 0 0 q 0 1), (5, .int .i64 ((2 * (i + 1) : Nat) : Int))] [⟨.typ (.ints .i64 zs), 0⟩]) := by
  have wi : IntKind.i64.wrap (((2 * i : Nat) : Int) + 2) = ((2 * (i + 1) : Nat) : Int) := by rw [IntWalk.i64_in _ (by omega)]; omega
  have wq : IntKind.i64.wrap (((2 * i : Nat) : Int).tdiv 2) = (i : Int) := by
    have e : ((2 * i : Nat) : Int).tdiv 2 = (i : Int) := by rw [Int.tdiv_eq_ediv_of_nonneg (by omega)]; omega
    rw [e, IntWalk.i64_in _ (by omega)]
  have k0 : q + 1 ≤ 4611686018427387904 := by omega
  have k1 : (q + 1) * 8 ≤ 140737488355328 := by omega
  have ht : zs.take q = zs := List.take_of_length_le (by omega)
  intro d
  induction d with
  | zero =>
    intro k n2 b hk hn
    obtain ⟨n2, rfl⟩ : ∃ k, n2 = k + 1 := ⟨n2 - 1, by omega⟩
    obtain rfl : k = N := by omega
    have c : ¬ (((2 * k : Nat) : Int) < (xs.length : Int)) := by omega
    have e : (List.range k).drop k = [] := List.drop_of_length_le (by simp)
    rw [round2, e]
    cases b
    · simp -implicitDefEqProofs only [c, wi, List.any_nil, decide_true, decide_false, Bool.and_self, Bool.or_self, Bool.and_true, Bool.true_and, Bool.and_false, Bool.false_and, Bool.or_true, Bool.true_or, Bool.or_false, Bool.false_or, Bool.not_true, Bool.not_false, cond_true, cond_false]
    · have z2 : ((2 : Int) == 0) = false := rfl
      simp -implicitDefEqProofs only [c, wi, wq, k0, k1, ht, z2, cq.one_set, List.any_nil, List.drop_zero, List.take_length, List.length_singleton, List.take_succ_cons, List.take_zero, Nat.reduceBEq, decide_true, decide_false, Bool.and_self, Bool.or_self, Bool.and_true, Bool.true_and, Bool.and_false, Bool.false_and, Bool.or_true, Bool.true_or, Bool.or_false, Bool.false_or, Bool.not_true, Bool.not_false, cond_true, cond_false]
  | succ d ih =>
    intro k n2 b hk hn
    obtain ⟨n2, rfl⟩ : ∃ k, n2 = k + 1 := ⟨n2 - 1, by omega⟩
    have hkN : k < N := by omega
    have c : ((2 * k : Nat) : Int) < (xs.length : Int) := by omega
    have wk : IntKind.i64.wrap (((2 * k : Nat) : Int) + 2) = ((2 * (k + 1) : Nat) : Int) := by rw [IntWalk.i64_in _ (by omega)]; omega
    have wk1 : IntKind.i64.wrap (((2 * k : Nat) : Int) + 1) = ((2 * k + 1 : Nat) : Int) := by rw [IntWalk.i64_in _ (by omega)]; omega
    have wi1 : IntKind.i64.wrap (((2 * i : Nat) : Int) + 1) = ((2 * i + 1 : Nat) : Int) := by rw [IntWalk.i64_in _ (by omega)]; omega
    have a0 : (0 : Int) ≤ ((2 * k : Nat) : Int) := Int.natCast_nonneg _
    have a1 : (0 : Int) ≤ ((2 * i : Nat) : Int) := Int.natCast_nonneg _
    have a2 : (0 : Int) ≤ ((2 * k + 1 : Nat) : Int) := Int.natCast_nonneg _
    have a3 : (0 : Int) ≤ ((2 * i + 1 : Nat) : Int) := Int.natCast_nonneg _
    have b1 : ((2 * i : Nat) : Int) < (xs.length : Int) := by omega
    have b2 : ((2 * k + 1 : Nat) : Int) < (xs.length : Int) := by omega
    have b3 : ((2 * i + 1 : Nat) : Int) < (xs.length : Int) := by omega
    have c0 : 2 * k < xs.length := by omega
    have c1 : 2 * i < xs.length := by omega
    have c2 : 2 * k + 1 < xs.length := by omega
    have c3 : 2 * i + 1 < xs.length := by omega
    have v0 := rm.bnd v (2 * k)
    have v1 := rm.bnd v (2 * i)
    have v2 := rm.bnd v (2 * k + 1)
    have v3 := rm.bnd v (2 * i + 1)
    have wp : IntKind.i64.wrap (gz xs (2 * k) - gz xs (2 * i)) = gz xs (2 * k) - gz xs (2 * i) := IntWalk.i64_in _ (by omega)
    have wr : IntKind.i64.wrap (gz xs (2 * k + 1) - gz xs (2 * i + 1)) = gz xs (2 * k + 1) - gz xs (2 * i + 1) := IntWalk.i64_in _ (by omega)
    have ws : IntKind.i64.wrap (gz xs (2 * k) - gz xs (2 * i) + (gz xs (2 * k + 1) - gz xs (2 * i + 1))) = gz xs (2 * k) - gz xs (2 * i) + (gz xs (2 * k + 1) - gz xs (2 * i + 1)) := IntWalk.i64_in _ (by omega)
    have hd := rm.d_eq xs i k
    unfold rm.d.sp at hd
    have hih := ih (k + 1) n2 (b && !rm.w.sp xs i k) (by omega) (by omega)
    have hbb : (b && !((List.range N).drop k).any (rm.w.sp xs i)) = ((b && !rm.w.sp xs i k) && !((List.range N).drop (k + 1)).any (rm.w.sp xs i)) := by
      rw [rm.drop_range hkN, List.any_cons]
      cases b <;> cases rm.w.sp xs i k <;> rfl
    rw [hbb, round2]
    simp -implicitDefEqProofs only [c, wk, wk1, wi1, a0, a1, a2, a3, b1, b2, b3, c0, c1, c2, c3, wp, wr, ws, Int.toNat_natCast, decide_true, decide_false, Bool.and_self, Bool.or_self, Bool.and_true, Bool.true_and, Bool.and_false, Bool.false_and, Bool.or_true, Bool.true_or, Bool.or_false, Bool.false_or, Bool.not_true, Bool.not_false, cond_true, cond_false]
    rw [← hd] at hih ⊢
    generalize gz xs (2 * k) - gz xs (2 * i) = p at *
    generalize gz xs (2 * k + 1) - gz xs (2 * i + 1) = r at *
    by_cases d1 : 0 ≤ p
    · by_cases d2 : 0 ≤ r
      · by_cases d3 : 0 < p + r
        · simp only [d1, d2, d3, decide_true, Bool.and_self, Bool.not_true, Bool.and_false, cond_true] at hih ⊢
          exact hih
        · simp only [d1, d2, d3, decide_true, decide_false, Bool.and_self, Bool.and_false, Bool.not_false, Bool.and_true, cond_true, cond_false] at hih ⊢
          exact hih
      · simp only [d1, d2, decide_true, decide_false, Bool.and_false, Bool.false_and, Bool.not_false, Bool.and_true, cond_true, cond_false] at hih ⊢
        exact hih
    · simp only [d1, decide_false, Bool.false_and, Bool.not_false, Bool.and_true, cond_false] at hih ⊢
      exact hih
theorem outer (xs : List Int) (N : Nat) (hx : xs.length = 2 * N) (hN : N ≤ 16) (v : ∀ x ∈ xs, 0 ≤ x ∧ x ≤ 1000) (f : Nat) (hf : N < f) : ∀ (d i n : Nat), i + d = N → d < n →
    L1 f n (mkS 65 [(0, .ro (.ints .i64 xs) xs.length 1), (4, .own 0 0 (rm.fl (rm.o.sp xs) i).length 0 1), (5, .int .i64 ((2 * i : Nat) : Int))] [⟨.typ (.ints .i64 (rm.fl (rm.o.sp xs) i)), 0⟩]) = some (.tup [.own 0 0 (rm.sv xs).length 0 1, .bool true], [⟨.typ (.ints .i64 (rm.sv xs)), 0⟩]) := by
  have hN2 : xs.length / 2 = N := by omega
  intro d
  induction d with
  | zero =>
    intro i n hi hn
    obtain ⟨n, rfl⟩ : ∃ k, n = k + 1 := ⟨n - 1, by omega⟩
    obtain rfl : i = N := by omega
    have c : ¬ (((2 * i : Nat) : Int) < (xs.length : Int)) := by omega
    have es : rm.sv xs = rm.fl (rm.o.sp xs) i := by unfold rm.sv; rw [hN2]
    rw [es, round1]
    simp -implicitDefEqProofs only [c, decide_true, decide_false, Bool.and_self, Bool.or_self, Bool.and_true, Bool.true_and, Bool.and_false, Bool.false_and, Bool.or_true, Bool.true_or, Bool.or_false, Bool.false_or, Bool.not_true, Bool.not_false, cond_true, cond_false]
  | succ d ih =>
    intro i n hi hn
    obtain ⟨n, rfl⟩ : ∃ k, n = k + 1 := ⟨n - 1, by omega⟩
    have c : ((2 * i : Nat) : Int) < (xs.length : Int) := by omega
    have hl := rm.fl_length (rm.o.sp xs) i
    have hin := inner xs N hx hN v (rm.fl (rm.o.sp xs) i) (rm.fl (rm.o.sp xs) i).length i f n (by omega) rfl (by omega) N 0 f true (by omega) (by omega)
    have hih := ih (i + 1) n (by omega) (by omega)
    rw [List.drop_zero, Bool.true_and] at hin
    have ho : (List.range N).any (rm.w.sp xs i) = rm.o.sp xs i := by unfold rm.o.sp rm.ex.sp; rw [hN2]
    rw [ho] at hin
    rw [round1]
    simp -implicitDefEqProofs only [c, decide_true, decide_false, Bool.and_self, Bool.or_self, Bool.and_true, Bool.true_and, Bool.and_false, Bool.false_and, Bool.or_true, Bool.true_or, Bool.or_false, Bool.false_or, Bool.not_true, Bool.not_false, cond_true, cond_false]
    refine Eq.trans hin ?_
    cases hp : rm.o.sp xs i
    · have e : rm.fl (rm.o.sp xs) (i + 1) = (rm.fl (rm.o.sp xs) i) ++ [(i : Int)] := by rw [rm.fl_succ, hp]; rfl
      rw [e, List.length_append] at hih
      exact hih
    · have e : rm.fl (rm.o.sp xs) (i + 1) = (rm.fl (rm.o.sp xs) i) := by rw [rm.fl_succ, hp]; rfl
      rw [e] at hih
      exact hih
theorem run : ∀ args v new, R args = some (true, v, new) → ∃ fuel, runFn Try.prog (orc [⟨24, l07Points.R⟩]) hd Dr.std none fuel (bodyOf Try.f7) 65 [2, 3] args [] = some (v, new) := by
  intro args v new h
  unfold R at h
  split at h
  · rename_i xs m
    simp only [Option.some.injEq, Prod.mk.injEq, Bool.and_eq_true, decide_eq_true_eq, Bool.not_eq_true'] at h
    obtain ⟨⟨⟨rfl, h3⟩, hs⟩, rfl, rfl⟩ := h
    have hs2 := hs
    simp only [l07Points.sp, Bool.and_eq_true, decide_eq_true_eq, List.all_eq_true] at hs2
    obtain ⟨⟨h5, h6, h7⟩, h8⟩ := hs2
    obtain ⟨F, hF⟩ : ∃ F : Nat, F = 100 := ⟨100, rfl⟩
    refine ⟨F, ?_⟩
    have ho := outer xs (xs.length / 2) (by omega) (by omega) h8 F (by omega) (xs.length / 2) 0 F (by omega) (by omega)
    rw [start]
    simp -implicitDefEqProofs only [h3, hs, List.take_length, Nat.le_refl, and_self, eq_self, decide_true, decide_false, Bool.and_self, Bool.or_self, Bool.and_true, Bool.true_and, Bool.and_false, Bool.false_and, Bool.or_true, Bool.true_or, Bool.or_false, Bool.false_or, Bool.not_true, Bool.not_false, cond_true, cond_false]
    exact ho
  · cases h
theorem ok : EntOk Try.prog ⟨7, R⟩ :=
  ent_okA mixed (A := (orc [⟨24, l07Points.R⟩])) (orc_ok (by simp only [List.mem_cons, List.not_mem_nil, or_false, forall_eq_or_imp, forall_eq]; exact l07Points.ok)) Try.func7 (by kernel_rfl) (by kernel_rfl) (n := 65) (ts := [2, 3]) (hd := hd) (dr := Dr.std) (cut := none) (by kernel_rfl) (by kernel_rfl) (by kernel_rfl) run
end sRimOf_t

namespace sRimOf_f
def R : List AVal → Option (Bool × AVal × List Blk)
  | [.ro (.ints .i64 xs) m 1] => some (decide (m = xs.length ∧ m ≤ 4611686018427387904) && !l07Points.sp xs, .tup [.nils, .bool false], [])
  | _ => none
def hd : Nat → Head := fun i => bif eqN i 2 then ⟨[0, 4, 5, 6, 7], some 1⟩ else ⟨[0, 4, 5], some 1⟩
noncomputable def L1 (f n : Nat) (s : State) := loopAt Try.prog (orc [⟨24, l07Points.R⟩]) hd Dr.std 0 f (bodyOf Try.f7) 0 [true, true, true, false, true] (retK Try.prog [2, 3] 0 (some 0)) n s
theorem start (xs : List Int) (f : Nat) :
  runFn Try.prog (orc [⟨24, l07Points.R⟩]) hd Dr.std (some 0) f (bodyOf Try.f7) 65 [2, 3] [.ro (.ints .i64 xs) xs.length 1] []
  = (bif decide (xs.length ≤ xs.length ∧ xs.length ≤ (4611686018427387904 : Nat)) && (true && true || true && true) then bif !l07Points.sp (List.take xs.length xs) then some (AVal.tup [AVal.nils, AVal.bool false], []) else L1 f f (mkS (65 : Nat) [((0 : Nat), AVal.ro (Cont.ints IntKind.i64 xs) xs.length (1 : Nat)), ((4 : Nat), AVal.own (0 : Nat) (0 : Nat) (0 : Nat) (0 : Nat) (1 : Nat)), ((5 : Nat), AVal.int IntKind.i64 (0 : Int))] [{ c := BC.typ (Cont.ints IntKind.i64 (List.replicate (0 : Nat) (0 : Int))), ver := (0 : Nat) }]) else none) := by kernel_rfl
theorem run : ∀ args v new, R args = some (true, v, new) → ∃ fuel, runFn Try.prog (orc [⟨24, l07Points.R⟩]) hd Dr.std (some 0) fuel (bodyOf Try.f7) 65 [2, 3] args [] = some (v, new) := by
  intro args v new h
  unfold R at h
  split at h
  · rename_i xs m
    simp only [Option.some.injEq, Prod.mk.injEq, Bool.and_eq_true, decide_eq_true_eq, Bool.not_eq_true'] at h
    obtain ⟨⟨⟨rfl, h3⟩, hs⟩, rfl, rfl⟩ := h
    refine ⟨0, ?_⟩
    rw [start]
    simp -implicitDefEqProofs only [h3, hs, List.take_length, Nat.le_refl, and_self, eq_self, decide_true, decide_false, Bool.and_self, Bool.or_self, Bool.and_true, Bool.true_and, Bool.and_false, Bool.false_and, Bool.or_true, Bool.true_or, Bool.or_false, Bool.false_or, Bool.not_true, Bool.not_false, cond_true, cond_false]
  · cases h
theorem ok : EntOk Try.prog ⟨7, R⟩ :=
  ent_okA mixed (A := (orc [⟨24, l07Points.R⟩])) (orc_ok (by simp only [List.mem_cons, List.not_mem_nil, or_false, forall_eq_or_imp, forall_eq]; exact l07Points.ok)) Try.func7 (by kernel_rfl) (by kernel_rfl) (n := 65) (ts := [2, 3]) (hd := hd) (dr := Dr.std) (cut := (some 0)) (by kernel_rfl) (by kernel_rfl) (by kernel_rfl) run
end sRimOf_f

namespace sRimOf
def Rt := sRimOf_t.R
def Rf := sRimOf_f.R
theorem okt : EntOk Try.prog ⟨7, Rt⟩ := sRimOf_t.ok
theorem okf : EntOk Try.prog ⟨7, Rf⟩ := sRimOf_f.ok
end sRimOf

namespace iRimOf_0
def R : List AVal → Option (Bool × AVal × List Blk)
  | [.ro (.ints .i64 xs) m 1] => some (decide (m = xs.length ∧ m ≤ 4611686018427387904) && l07Points.sp xs, .tup [.own 0 0 (rm.sv xs).length 0 1, .bool true], [⟨.typ (.ints .i64 (rm.sv xs ++ List.replicate (xs.length / 2 - (rm.sv xs).length) 0)), 0⟩])
  | _ => none
theorem go (xs : List Int) :
  regc [3] (runFn Try.prog (orcW [⟨27, rimDel.R⟩] [⟨25, iIsBargain.R⟩, ⟨26, counting2.R⟩, ⟨28, slClone2.R⟩]) hd0 Dr.std none 0 (bodyOf Try.f9) 16 [2, 3] [.ro (.ints .i64 xs) xs.length 1] [])
  = (match bif true && true then bif decide (xs.length ≤ xs.length ∧ xs.length ≤ (4611686018427387904 : Nat)) && (true && true || true && true) then bif !l07Points.sp (List.take xs.length xs) then some (AVal.tup [AVal.nils, AVal.bool false], [{ c := BC.cells [AVal.ro (Cont.ints IntKind.i64 xs) xs.length (1 : Nat)], ver := (0 : Nat) }]) else bif true && true then bif decide ((0 : Int) ≤ IntKind.i64.wrap ((↑xs.length : Int).tdiv (2 : Int)) ∧ IntKind.i64.wrap ((↑xs.length : Int).tdiv (2 : Int)) ≤ (1000 : Int)) && (true && true || true && (true && true)) then bif true && (true && (true && true)) then bif true && true then bif decide ((0 : Nat) < (cq.sv (IntKind.i64.wrap ((↑xs.length : Int).tdiv (2 : Int))).toNat).length ∧ (cq.sv (IntKind.i64.wrap ((↑xs.length : Int).tdiv (2 : Int))).toNat).length ≤ (cq.sv (IntKind.i64.wrap ((↑xs.length : Int).tdiv (2 : Int))).toNat).length ∧ (cq.sv (IntKind.i64.wrap ((↑xs.length : Int).tdiv (2 : Int))).toNat).length ≤ (1048576 : Nat)) && (false && true || true && (true && true)) then bif decide ((cq.sv (IntKind.i64.wrap ((↑xs.length : Int).tdiv (2 : Int))).toNat).length = xs.length / (2 : Nat) ∧ (cq.sv (IntKind.i64.wrap ((↑xs.length : Int).tdiv (2 : Int))).toNat).length = xs.length / (2 : Nat) ∧ cq.sv (IntKind.i64.wrap ((↑xs.length : Int).tdiv (2 : Int))).toNat = cq.sv (cq.sv (IntKind.i64.wrap ((↑xs.length : Int).tdiv (2 : Int))).toNat).length ∧ xs.length = xs.length ∧ xs.length % (2 : Nat) = (0 : Nat) ∧ xs.length ≤ (32 : Nat) ∧ List.take (cq.sv (IntKind.i64.wrap ((↑xs.length : Int).tdiv (2 : Int))).toNat).length (cq.sv (IntKind.i64.wrap ((↑xs.length : Int).tdiv (2 : Int))).toNat) = cq.sv (cq.sv (IntKind.i64.wrap ((↑xs.length : Int).tdiv (2 : Int))).toNat).length ∧ (29 : Nat) = (29 : FuncId)) && (true && (true && true) && (true && (true && (true && (true && true))))) then some (AVal.tup [AVal.own ((1 : Nat) + (1 : Nat) + (1 : Nat) + (0 : Nat)) (0 : Nat) (rm.sv xs).length (0 : Nat) (1 : Nat), AVal.bool true], [{ c := BC.cells [AVal.ro (Cont.ints IntKind.i64 xs) xs.length (1 : Nat)], ver := (0 : Nat) }, { c := BC.typ (Cont.ints IntKind.i64 (cq.sv (IntKind.i64.wrap ((↑xs.length : Int).tdiv (2 : Int))).toNat)), ver := (0 : Nat) }, { c := BC.cells [AVal.own (1 : Nat) (0 : Nat) (cq.sv (IntKind.i64.wrap ((↑xs.length : Int).tdiv (2 : Int))).toNat).length (0 : Nat) (1 : Nat)], ver := (0 : Nat) }, { c := BC.typ (Cont.ints IntKind.i64 (rm.sv xs ++ List.replicate ((cq.sv (IntKind.i64.wrap ((↑xs.length : Int).tdiv (2 : Int))).toNat).length - (rm.sv xs).length) (0 : Int))), ver := (0 : Nat) }]) else none else none else none else none else none else none else none else none with
| some (v, h) =>
  bif true && (ltN (3 : Nat) (hlen h) && true) then
    some
      (AVal.re [(3 : Nat)] h v,
        match nth h (3 : Nat) with
        | some b => { c := BC.re [(3 : Nat)] h b.c, ver := b.ver } :: reB [(3 : Nat)] h []
        | none => { c := BC.cells [], ver := (0 : Nat) } :: reB [(3 : Nat)] h [])
  else none
| none => none) := by kernel_rfl
theorem run : ∀ args v new, R args = some (true, v, new) → ∃ fuel, regc [3] (runFn Try.prog (orcW [⟨27, rimDel.R⟩] [⟨25, iIsBargain.R⟩, ⟨26, counting2.R⟩, ⟨28, slClone2.R⟩]) hd0 Dr.std none fuel (bodyOf Try.f9) 16 [2, 3] args []) = some (v, new) := by
  intro args v new h
  unfold R at h
  split at h
  · rename_i xs m
    simp only [Option.some.injEq, Prod.mk.injEq, Bool.and_eq_true, decide_eq_true_eq, Bool.not_eq_true'] at h
    obtain ⟨⟨⟨rfl, h3⟩, hs⟩, rfl, rfl⟩ := h
    have hs2 := hs
    simp only [l07Points.sp, Bool.and_eq_true, decide_eq_true_eq, List.all_eq_true] at hs2
    obtain ⟨⟨h5, h6, h7⟩, h8⟩ := hs2
    refine ⟨0, ?_⟩
    have e : ((xs.length : Int).tdiv 2) = ((xs.length / 2 : Nat) : Int) := by rw [Int.tdiv_eq_ediv_of_nonneg (by omega)]; omega
    have w : IntKind.i64.wrap ((xs.length / 2 : Nat) : Int) = ((xs.length / 2 : Nat) : Int) := IntWalk.i64_in _ (by omega)
    have z2 : ((2 : Int) == 0) = false := rfl
    have m0 : (0 : Int) ≤ ((xs.length / 2 : Nat) : Int) := Int.natCast_nonneg _
    have m1 : ((xs.length / 2 : Nat) : Int) ≤ 1000 := by omega
    have m2 : 0 < xs.length / 2 := by omega
    have m3 : xs.length / 2 ≤ 1048576 := by omega
    have cl : (cq.sv (xs.length / 2)).length = xs.length / 2 := cq.sv_length _
    have ct : (cq.sv (xs.length / 2)).take (xs.length / 2) = cq.sv (xs.length / 2) := List.take_of_length_le (by rw [cq.sv_length]; exact Nat.le_refl _)
    rw [go]
    simp -implicitDefEqProofs only [h3, hs, e, w, z2, m0, m1, m2, m3, cl, ct, h6, h7, Int.toNat_natCast, List.take_length, Nat.le_refl, and_self, eq_self, decide_true, decide_false, Bool.and_self, Bool.or_self, Bool.and_true, Bool.true_and, Bool.and_false, Bool.false_and, Bool.or_true, Bool.true_or, Bool.or_false, Bool.false_or, Bool.not_true, Bool.not_false, cond_true, cond_false]
    try rfl
  · cases h
theorem ok : EntOk Try.prog ⟨9, R⟩ :=
  ent_okAG (ks := [3]) mixed (A := (orcW [⟨27, rimDel.R⟩] [⟨25, iIsBargain.R⟩, ⟨26, counting2.R⟩, ⟨28, slClone2.R⟩])) (orcW_ok (by simp only [List.mem_cons, List.not_mem_nil, or_false, forall_eq_or_imp, forall_eq]; exact rimDel.ok) (by simp only [List.mem_cons, List.not_mem_nil, or_false, forall_eq_or_imp, forall_eq]; exact ⟨iIsBargain.ok, counting2.ok, slClone2.ok⟩)) Try.func9 (by kernel_rfl) (by kernel_rfl) (n := 16) (ts := [2, 3]) (hd := hd0) (dr := Dr.std) (cut := none) (by kernel_rfl) (by kernel_rfl) (by kernel_rfl) run
end iRimOf_0

namespace iRimOf_t
def R : List AVal → Option (Bool × AVal × List Blk)
  | [.ro (.ints .i64 xs) m 1] => some (decide (m = xs.length ∧ m ≤ 4611686018427387904) && l07Points.sp xs, .tup [.own 0 0 (rm.sv xs).length 0 1, .bool true], [⟨.typ (.ints .i64 (rm.sv xs)), 0⟩])
  | _ => none
theorem ok : EntOk Try.prog ⟨9, R⟩ := iRimOf_0.ok.trim fun args v new h => by
  unfold R at h
  split at h
  · rename_i xs m
    simp only [Option.some.injEq, Prod.mk.injEq] at h
    obtain ⟨h1, rfl, rfl⟩ := h
    have hl := rm.sv_length xs
    refine ⟨.i64, (rm.sv xs ++ List.replicate (xs.length / 2 - (rm.sv xs).length) 0), (rm.sv xs).length, by simp only [iRimOf_0.R, h1], ?_, ?_, ?_⟩
    · rw [List.take_append_of_le_length (Nat.le_refl _), List.take_length]
    · simp only [AVal.fits, AVal.fits.fitss, Nat.zero_add, Nat.mul_one, Nat.le_refl, decide_true, Bool.or_true, Bool.and_self]
    · rw [List.length_append]; omega
  · cases h
end iRimOf_t

namespace iRimOf_f
def R : List AVal → Option (Bool × AVal × List Blk)
  | [.ro (.ints .i64 xs) m 1] => some (decide (m = xs.length ∧ m ≤ 4611686018427387904) && !l07Points.sp xs, .tup [.nils, .bool false], [])
  | _ => none
theorem go (xs : List Int) :
  runFn Try.prog (orc [⟨25, iIsBargain.R⟩]) hd0 Dr.std (some 0) 0 (bodyOf Try.f9) 16 [2, 3] [.ro (.ints .i64 xs) xs.length 1] []
  = (bif true && true then bif decide (xs.length ≤ xs.length ∧ xs.length ≤ (4611686018427387904 : Nat)) && (true && true || true && true) then bif !l07Points.sp (List.take xs.length xs) then some (AVal.tup [AVal.nils, AVal.bool false], []) else bif true && true then none else none else none else none) := by kernel_rfl
theorem run : ∀ args v new, R args = some (true, v, new) → ∃ fuel, runFn Try.prog (orc [⟨25, iIsBargain.R⟩]) hd0 Dr.std (some 0) fuel (bodyOf Try.f9) 16 [2, 3] args [] = some (v, new) := by
  intro args v new h
  unfold R at h
  split at h
  · rename_i xs m
    simp only [Option.some.injEq, Prod.mk.injEq, Bool.and_eq_true, decide_eq_true_eq, Bool.not_eq_true'] at h
    obtain ⟨⟨⟨rfl, h3⟩, hs⟩, rfl, rfl⟩ := h
    refine ⟨0, ?_⟩
    rw [go]
    simp -implicitDefEqProofs only [h3, hs, List.take_length, Nat.le_refl, and_self, eq_self, decide_true, decide_false, Bool.and_self, Bool.or_self, Bool.and_true, Bool.true_and, Bool.and_false, Bool.false_and, Bool.or_true, Bool.true_or, Bool.or_false, Bool.false_or, Bool.not_true, Bool.not_false, cond_true, cond_false]
  · cases h
theorem ok : EntOk Try.prog ⟨9, R⟩ :=
  ent_okA mixed (A := (orc [⟨25, iIsBargain.R⟩])) (orc_ok (by simp only [List.mem_cons, List.not_mem_nil, or_false, forall_eq_or_imp, forall_eq]; exact iIsBargain.ok)) Try.func9 (by kernel_rfl) (by kernel_rfl) (n := 16) (ts := [2, 3]) (hd := hd0) (dr := Dr.std) (cut := (some 0)) (by kernel_rfl) (by kernel_rfl) (by kernel_rfl) run
end iRimOf_f

namespace iRimOf
def Rt := iRimOf_t.R
def Rf := iRimOf_f.R
theorem okt : EntOk Try.prog ⟨9, Rt⟩ := iRimOf_t.ok
theorem okf : EntOk Try.prog ⟨9, Rf⟩ := iRimOf_f.ok
end iRimOf

namespace FnExactRimOft
def R : List AVal → Option (Bool × AVal × List Blk)
  | [.ro (.ints .i64 xs) m 1] => some (decide ((1048576 : Int) < (m : Int)) || (decide (m ≤ xs.length ∧ m ≤ 1048576) && (l07Points.sp (xs.take m))), .bool true, [])
  | _ => none
theorem go (xs : List Int) (m : Nat) :
  runFn Try.prog (orcW [⟨11, markInt64S.R⟩] [⟨8, toInt64S.R⟩, ⟨7, sRimOf.Rt⟩, ⟨9, iRimOf.Rt⟩, ⟨10, eqInt64N.R⟩, ⟨12, heldInt64S.R⟩]) hd0 Dr.std (some 0) 0 (bodyOf Try.f3) 93 [2] [.ro (.ints .i64 xs) m 1] []
  = (bif decide ((1048576 : Int) < (↑m : Int)) then some (AVal.bool true, []) else bif decide (m ≤ xs.length ∧ m ≤ (1048576 : Nat)) && (true && true || true && (true && true)) then bif decide (m = (List.take m xs).length ∧ m ≤ (4611686018427387904 : Nat)) && l07Points.sp (List.take m xs) && (false && true || true && true && (true && true)) then bif decide (m ≤ xs.length ∧ m ≤ (1048576 : Nat)) && (true && true || true && (true && true)) then bif decide (m = (List.take m xs).length ∧ m ≤ (4611686018427387904 : Nat)) && l07Points.sp (List.take m xs) && (false && true || true && true && (true && true)) then bif decide ((rm.sv (List.take m xs)).length ≤ (rm.sv (List.take m xs)).length ∧ (rm.sv (List.take m xs)).length ≤ (rm.sv (List.take m xs)).length ∧ (rm.sv (List.take m xs)).length ≤ (4611686018427387904 : Nat)) && (false && (false && true) || true && true) then bif !decide (List.take (rm.sv (List.take m xs)).length (rm.sv (List.take m xs)) = List.take (rm.sv (List.take m xs)).length (rm.sv (List.take m xs))) then some (AVal.bool false, []) else bif decide (m ≤ xs.length ∧ m ≤ (1048576 : Nat)) && (true && true || true && (true && true)) then bif decide (m ≤ (List.take m xs).length ∧ m ≤ (List.take m xs).length ∧ m ≤ (4611686018427387904 : Nat)) && (false && (false && true) || true && true) then bif !decide (List.take m (List.take m xs) = List.take m (List.take m xs)) then some (AVal.bool false, []) else bif decide (m = (List.take m xs).length ∧ m ≤ (4611686018427387904 : Nat) ∧ (0 : Int) ≤ (1 : Int) ∧ (1 : Int) ≤ (1000000000 : Int)) && (true && true && (true && true)) then bif decide ((1 : Int) + (↑m : Int) < (0 : Int)) then some (AVal.bool false, []) else bif decide ((rm.sv (List.take m xs)).length ≤ (rm.sv (List.take m xs)).length ∧ (rm.sv (List.take m xs)).length ≤ (rm.sv (List.take m xs)).length ∧ (rm.sv (List.take m xs)).length ≤ (4611686018427387904 : Nat)) && (false && (false && true) || true && true) then bif !decide (List.take (rm.sv (List.take m xs)).length (rm.sv (List.take m xs)) = List.take (rm.sv (List.take m xs)).length (rm.sv (List.take m xs))) then some (AVal.bool false, []) else bif decide ((rm.sv (List.take m xs)).length = (rm.sv (List.take m xs)).length ∧ (rm.sv (List.take m xs)).length ≤ (4611686018427387904 : Nat) ∧ (0 : Int) ≤ (1 : Int) ∧ (1 : Int) ≤ (1000000000 : Int)) && (true && true && (true && true)) then bif decide ((rm.sv (List.take m xs)).length ≤ (marks.sv (1 : Int) (rm.sv (List.take m xs)).length).length ∧ (rm.sv (List.take m xs)).length ≤ (4611686018427387904 : Nat) ∧ (0 : Int) ≤ (1 : Int) ∧ (1 : Int) ≤ (1000000000 : Int)) && (false && true || true && true) then bif decide ((bif decide (List.take (rm.sv (List.take m xs)).length (marks.sv (1 : Int) (rm.sv (List.take m xs)).length) = marks.sv (1 : Int) (rm.sv (List.take m xs)).length) then (1 : Int) + (↑(rm.sv (List.take m xs)).length : Int) else (-1 : Int)) < (0 : Int)) then some (AVal.bool false, []) else bif (bif decide (List.take (rm.sv (List.take m xs)).length (marks.sv (1 : Int) (rm.sv (List.take m xs)).length) = marks.sv (1 : Int) (rm.sv (List.take m xs)).length) then (1 : Int) + (↑(rm.sv (List.take m xs)).length : Int) else (-1 : Int)) != (1 : Int) + (↑(rm.sv (List.take m xs)).length : Int) then some (AVal.bool false, []) else bif decide (m ≤ xs.length ∧ m ≤ (1048576 : Nat)) && (true && true || true && (true && true)) then bif decide (m = (List.take m xs).length ∧ m ≤ (4611686018427387904 : Nat)) && l07Points.sp (List.take m xs) && (false && true || true && true && (true && true)) then bif decide ((rm.sv (List.take m xs)).length ≤ (rm.sv (List.take m xs)).length ∧ (rm.sv (List.take m xs)).length ≤ (rm.sv (List.take m xs)).length ∧ (rm.sv (List.take m xs)).length ≤ (4611686018427387904 : Nat)) && (false && (false && true) || true && true) then bif !decide (List.take (rm.sv (List.take m xs)).length (rm.sv (List.take m xs)) = List.take (rm.sv (List.take m xs)).length (rm.sv (List.take m xs))) then some (AVal.bool false, []) else bif decide ((rm.sv (List.take m xs)).length ≤ (marks.sv (1 : Int) (rm.sv (List.take m xs)).length).length ∧ (rm.sv (List.take m xs)).length ≤ (4611686018427387904 : Nat) ∧ (0 : Int) ≤ (1 : Int) ∧ (1 : Int) ≤ (1000000000 : Int)) && (false && true || true && true) then bif decide ((bif decide (List.take (rm.sv (List.take m xs)).length (marks.sv (1 : Int) (rm.sv (List.take m xs)).length) = marks.sv (1 : Int) (rm.sv (List.take m xs)).length) then (1 : Int) + (↑(rm.sv (List.take m xs)).length : Int) else (-1 : Int)) < (0 : Int)) then some (AVal.bool false, []) else bif (bif decide (List.take (rm.sv (List.take m xs)).length (marks.sv (1 : Int) (rm.sv (List.take m xs)).length) = marks.sv (1 : Int) (rm.sv (List.take m xs)).length) then (1 : Int) + (↑(rm.sv (List.take m xs)).length : Int) else (-1 : Int)) != (1 : Int) + (↑(rm.sv (List.take m xs)).length : Int) then some (AVal.bool false, []) else some (AVal.bool true, []) else none else none else none else none else none else none else none else none else none else none else none else none else none else none else none) := by kernel_rfl
theorem run : ∀ args v new, R args = some (true, v, new) → ∃ fuel, runFn Try.prog (orcW [⟨11, markInt64S.R⟩] [⟨8, toInt64S.R⟩, ⟨7, sRimOf.Rt⟩, ⟨9, iRimOf.Rt⟩, ⟨10, eqInt64N.R⟩, ⟨12, heldInt64S.R⟩]) hd0 Dr.std (some 0) fuel (bodyOf Try.f3) 93 [2] args [] = some (v, new) := by
  intro args v new h
  unfold R at h
  split at h
  · rename_i xs m
    simp only [Option.some.injEq, Prod.mk.injEq, Bool.or_eq_true, Bool.and_eq_true, decide_eq_true_eq, Bool.not_eq_true'] at h
    obtain ⟨h, rfl, rfl⟩ := h
    refine ⟨0, ?_⟩
    rw [go]
    by_cases b0 : (1048576 : Int) < (m : Int)
    · simp only [b0, decide_true, decide_false, cond_true, cond_false]
    rcases h with h | h
    · exact absurd h (by omega)
    obtain ⟨⟨hl0, hl1⟩, hc⟩ := h
    have e0 : (xs.take m).length = m := by simp; omega
    have g0 : m ≤ 4611686018427387904 := by omega
    have o0 : (rm.sv (xs.take m)).length ≤ 4611686018427387904 := by have := rm.sv_length (xs.take m); omega
    simp only [b0, e0, g0, hl0, hl1, hc, o0, List.take_take, Nat.min_self, Nat.le_refl, List.take_length, marks_length, take_marks, one_neg, i0_1, i1_b, true_and, and_true, and_self, decide_true, decide_false, Bool.and_self, Bool.or_self, Bool.and_true, Bool.true_and, Bool.and_false, Bool.false_and, Bool.or_true, Bool.true_or, Bool.or_false, Bool.false_or, Bool.not_true, Bool.not_false, cond_true, cond_false, bne_self_eq_false, beq_self_eq_true]
  · cases h
theorem ok : EntOk Try.prog ⟨3, R⟩ :=
  ent_okA mixed (A := (orcW [⟨11, markInt64S.R⟩] [⟨8, toInt64S.R⟩, ⟨7, sRimOf.Rt⟩, ⟨9, iRimOf.Rt⟩, ⟨10, eqInt64N.R⟩, ⟨12, heldInt64S.R⟩])) (orcW_ok (by simp only [List.mem_cons, List.not_mem_nil, or_false, forall_eq_or_imp, forall_eq]; exact markInt64S.ok) (by simp only [List.mem_cons, List.not_mem_nil, or_false, forall_eq_or_imp, forall_eq]; exact ⟨toInt64S.ok, sRimOf.okt, iRimOf.okt, eqInt64N.ok, heldInt64S.ok⟩)) Try.func3 (by kernel_rfl) (by kernel_rfl) (n := 93) (ts := [2]) (hd := hd0) (dr := Dr.std) (cut := (some 0)) (by kernel_rfl) (by kernel_rfl) (by kernel_rfl) run
end FnExactRimOft

namespace FnExactRimOff
def R : List AVal → Option (Bool × AVal × List Blk)
  | [.ro (.ints .i64 xs) m 1] => some (decide ((1048576 : Int) < (m : Int)) || (decide (m ≤ xs.length ∧ m ≤ 1048576) && !(l07Points.sp (xs.take m))), .bool true, [])
  | _ => none
theorem go (xs : List Int) (m : Nat) :
  runFn Try.prog (orcW [⟨11, markInt64S.R⟩] [⟨8, toInt64S.R⟩, ⟨7, sRimOf.Rf⟩, ⟨9, iRimOf.Rf⟩, ⟨10, eqInt64N.R⟩, ⟨12, heldInt64S.R⟩]) hd0 Dr.std (some 0) 0 (bodyOf Try.f3) 93 [2] [.ro (.ints .i64 xs) m 1] []
  = (bif decide ((1048576 : Int) < (↑m : Int)) then some (AVal.bool true, []) else bif decide (m ≤ xs.length ∧ m ≤ (1048576 : Nat)) && (true && true || true && (true && true)) then bif decide (m = (List.take m xs).length ∧ m ≤ (4611686018427387904 : Nat)) && !l07Points.sp (List.take m xs) && (false && true || true && true) then bif decide (m ≤ xs.length ∧ m ≤ (1048576 : Nat)) && (true && true || true && (true && true)) then bif decide (m = (List.take m xs).length ∧ m ≤ (4611686018427387904 : Nat)) && !l07Points.sp (List.take m xs) && (false && true || true && true) then bif decide (m ≤ xs.length ∧ m ≤ (1048576 : Nat)) && (true && true || true && (true && true)) then bif decide (m ≤ (List.take m xs).length ∧ m ≤ (List.take m xs).length ∧ m ≤ (4611686018427387904 : Nat)) && (false && (false && true) || true && true) then bif !decide (List.take m (List.take m xs) = List.take m (List.take m xs)) then some (AVal.bool false, []) else bif decide (m = (List.take m xs).length ∧ m ≤ (4611686018427387904 : Nat) ∧ (0 : Int) ≤ (1 : Int) ∧ (1 : Int) ≤ (1000000000 : Int)) && (true && (true && true)) then bif decide ((1 : Int) + (↑m : Int) < (0 : Int)) then some (AVal.bool false, []) else bif true && (true && true) then bif decide (m ≤ xs.length ∧ m ≤ (1048576 : Nat)) && (true && true || true && (true && true)) then bif decide (m = (List.take m xs).length ∧ m ≤ (4611686018427387904 : Nat)) && !l07Points.sp (List.take m xs) && (false && true || true && true) then some (AVal.bool true, []) else none else none else none else none else none else none else none else none else none else none) := by kernel_rfl
theorem run : ∀ args v new, R args = some (true, v, new) → ∃ fuel, runFn Try.prog (orcW [⟨11, markInt64S.R⟩] [⟨8, toInt64S.R⟩, ⟨7, sRimOf.Rf⟩, ⟨9, iRimOf.Rf⟩, ⟨10, eqInt64N.R⟩, ⟨12, heldInt64S.R⟩]) hd0 Dr.std (some 0) fuel (bodyOf Try.f3) 93 [2] args [] = some (v, new) := by
  intro args v new h
  unfold R at h
  split at h
  · rename_i xs m
    simp only [Option.some.injEq, Prod.mk.injEq, Bool.or_eq_true, Bool.and_eq_true, decide_eq_true_eq, Bool.not_eq_true'] at h
    obtain ⟨h, rfl, rfl⟩ := h
    refine ⟨0, ?_⟩
    rw [go]
    by_cases b0 : (1048576 : Int) < (m : Int)
    · simp only [b0, decide_true, decide_false, cond_true, cond_false]
    rcases h with h | h
    · exact absurd h (by omega)
    obtain ⟨⟨hl0, hl1⟩, hc⟩ := h
    have e0 : (xs.take m).length = m := by simp; omega
    have g0 : m ≤ 4611686018427387904 := by omega
    simp only [b0, e0, g0, hl0, hl1, hc, List.take_take, Nat.min_self, Nat.le_refl, List.take_length, marks_length, take_marks, one_neg, i0_1, i1_b, true_and, and_true, and_self, decide_true, decide_false, Bool.and_self, Bool.or_self, Bool.and_true, Bool.true_and, Bool.and_false, Bool.false_and, Bool.or_true, Bool.true_or, Bool.or_false, Bool.false_or, Bool.not_true, Bool.not_false, cond_true, cond_false, bne_self_eq_false, beq_self_eq_true]
  · cases h
theorem ok : EntOk Try.prog ⟨3, R⟩ :=
  ent_okA mixed (A := (orcW [⟨11, markInt64S.R⟩] [⟨8, toInt64S.R⟩, ⟨7, sRimOf.Rf⟩, ⟨9, iRimOf.Rf⟩, ⟨10, eqInt64N.R⟩, ⟨12, heldInt64S.R⟩])) (orcW_ok (by simp only [List.mem_cons, List.not_mem_nil, or_false, forall_eq_or_imp, forall_eq]; exact markInt64S.ok) (by simp only [List.mem_cons, List.not_mem_nil, or_false, forall_eq_or_imp, forall_eq]; exact ⟨toInt64S.ok, sRimOf.okf, iRimOf.okf, eqInt64N.ok, heldInt64S.ok⟩)) Try.func3 (by kernel_rfl) (by kernel_rfl) (n := 93) (ts := [2]) (hd := hd0) (dr := Dr.std) (cut := (some 0)) (by kernel_rfl) (by kernel_rfl) (by kernel_rfl) run
end FnExactRimOff

namespace FnExactRimOf
def R : List AVal → Option (Bool × AVal × List Blk)
  | [.ro (.ints .i64 xs) m 1] => some (decide (m ≤ xs.length), .bool true, [])
  | _ => none
theorem ok : EntOk Try.prog ⟨3, R⟩ := by
  refine EntOk.cases FnExactRimOft.ok FnExactRimOff.ok fun args v new h => ?_
  unfold R at h
  split at h
  · rename_i xs m
    simp only [Option.some.injEq, Prod.mk.injEq, decide_eq_true_eq] at h
    obtain ⟨h, rfl, rfl⟩ := h
    simp only [FnExactRimOft.R, FnExactRimOff.R, Option.some.injEq, Prod.mk.injEq, Bool.or_eq_true, Bool.and_eq_true, decide_eq_true_eq, Bool.not_eq_true', and_true]
    by_cases hb : (1048576 : Int) < (m : Int)
    · exact .inl (.inl hb)
    · have hs : m ≤ xs.length ∧ m ≤ 1048576 := by omega
      cases hc : (l07Points.sp (xs.take m) : Bool)
      · exact .inr (.inr ⟨hs, rfl⟩)
      · exact .inl (.inr ⟨hs, rfl⟩)
  · cases h
end FnExactRimOf

end Go.Proofs.Ytadpndpbooofiaa.Ab
