/-
  Functions: points that are best, the program.
-/
import Derived.Test.YtmaegbgkpjbohaaFnN
namespace Go.Proofs.Ytmaegbgkpjbohaa.Ab
open Go
set_option linter.unusedVariables false
set_option linter.unusedSimpArgs false
set_option maxRecDepth 100000

theorem two_set {α : Type} (z x y : α) : ((List.replicate 2 z).set 0 x).set 1 y = [x, y] := rfl
theorem two_len {α : Type} (x y : α) : [x, y].length = 2 := rfl
theorem two_take {α : Type} (x y : α) : List.take 2 [x, y] = [x, y] := rfl
theorem two_le : ((2 : Nat) ≤ 4611686018427387904) = True := by simp

namespace better
def R : List AVal → Option (Bool × AVal × List Blk)
  | [.ro (.ints .i64 xs) m 1, .int .i64 x, .int .i64 y] => some (decide (m ≤ xs.length ∧ m ≤ 4611686018427387904) && point.sp (xs.take m) x y, .tup [.own 0 0 (point.sv (xs.take m) x y).length 0 1, .bool (decide (0 < (point.sv (xs.take m) x y).length))], [⟨.typ (.ints .i64 (point.sv (xs.take m) x y)), 0⟩])
  | _ => none
def hd : Nat → Head := fun _ => ⟨[0, 1, 2, 8, 23, 24], some 2⟩
noncomputable def L (f n : Nat) (s : State) := loopAt Try.prog (orc [⟨16, iIsBargain.R⟩, ⟨80, areWithin.R⟩]) hd Dr.std 0 f (bodyOf Try.f88) 0 [true, true, true, false, true] (retK Try.prog [6, 7] 0 none) n s
theorem start (xs : List Int) (m : Nat) (x y : Int) (f : Nat) :
  runFn Try.prog (orc [⟨16, iIsBargain.R⟩, ⟨80, areWithin.R⟩]) hd Dr.std none f (bodyOf Try.f88) 53 [6, 7] [.ro (.ints .i64 xs) m 1, .int .i64 x, .int .i64 y] []
  = (bif decide (m ≤ xs.length ∧ m ≤ (4611686018427387904 : Nat)) && (true && true || true && true) then bif !l07Points.sp (List.take m xs) then some (AVal.tup [AVal.nils, AVal.bool false], []) else bif decide ((2 : Nat) ≤ (((List.replicate (2 : Nat) (0 : Int)).set (0 : Nat) x).set (1 : Nat) y).length ∧ (2 : Nat) ≤ (4611686018427387904 : Nat)) && (false && true || true && true) then bif !(List.take (2 : Nat) (((List.replicate (2 : Nat) (0 : Int)).set (0 : Nat) x).set (1 : Nat) y)).all fun x => decide ((0 : Int) ≤ x) && decide (x ≤ (1000 : Int)) then some (AVal.tup [AVal.nils, AVal.bool false], [{ c := BC.typ (Cont.ints IntKind.i64 (((List.replicate (2 : Nat) (0 : Int)).set (0 : Nat) x).set (1 : Nat) y)), ver := (0 : Nat) }]) else L f f (mkS (53 : Nat) [((0 : Nat), AVal.ro (Cont.ints IntKind.i64 xs) m (1 : Nat)), ((1 : Nat), AVal.int IntKind.i64 x), ((2 : Nat), AVal.int IntKind.i64 y), ((8 : Nat), AVal.own (1 : Nat) (0 : Nat) (0 : Nat) (0 : Nat) (1 : Nat)), ((23 : Nat), AVal.int IntKind.i64 (IntKind.i64.wrap ((↑m : Int).tdiv (2 : Int)))), ((24 : Nat), AVal.int IntKind.i64 (0 : Int))] [{ c := BC.typ (Cont.ints IntKind.i64 (((List.replicate (2 : Nat) (0 : Int)).set (0 : Nat) x).set (1 : Nat) y)), ver := (0 : Nat) }, { c := BC.typ (Cont.ints IntKind.i64 (List.replicate (0 : Nat) (0 : Int))), ver := (0 : Nat) }]) else none else none) := by kernel_rfl
theorem round (xs : List Int) (m : Nat) (x y : Int) (zs : List Int) (N : Int) (k i f n : Nat) :
  L f (n + 1) (mkS 53 [(0, .ro (.ints .i64 xs) m 1), (1, .int .i64 x), (2, .int .i64 y), (8, .own 1 0 k 0 1), (23, .int .i64 N), (24, .int .i64 i)] [⟨.typ (.ints .i64 [x, y]), 0⟩, ⟨.typ (.ints .i64 zs), 0⟩])
  = (bif decide ((↑i : Int) < N) then bif true && (decide ((0 : Int) ≤ IntKind.i64.wrap ((2 : Int) * (↑i : Int))) && decide (IntKind.i64.wrap ((2 : Int) * (↑i : Int)) < (↑m : Int))) then bif decide ((IntKind.i64.wrap ((2 : Int) * (↑i : Int))).toNat < xs.length) then bif decide (x ≤ gz xs (IntKind.i64.wrap ((2 : Int) * (↑i : Int))).toNat) then bif true && (decide ((0 : Int) ≤ IntKind.i64.wrap (IntKind.i64.wrap ((2 : Int) * (↑i : Int)) + (1 : Int))) && decide (IntKind.i64.wrap (IntKind.i64.wrap ((2 : Int) * (↑i : Int)) + (1 : Int)) < (↑m : Int))) then bif decide ((IntKind.i64.wrap (IntKind.i64.wrap ((2 : Int) * (↑i : Int)) + (1 : Int))).toNat < xs.length) then bif decide (y ≤ gz xs (IntKind.i64.wrap (IntKind.i64.wrap ((2 : Int) * (↑i : Int)) + (1 : Int))).toNat) then bif (1 : Nat) == (1 : Nat) && (1 : Nat) == (1 : Nat) && (true && (true && true) && (true && true && (decide (k + (List.take (1 : Nat) (List.drop (0 : Nat) ((List.replicate (1 : Nat) (0 : Int)).set (0 : Nat) (↑i : Int)))).length ≤ (4611686018427387904 : Nat)) && decide ((k + (List.take (1 : Nat) (List.drop (0 : Nat) ((List.replicate (1 : Nat) (0 : Int)).set (0 : Nat) (↑i : Int)))).length) * (8 : Nat) ≤ (140737488355328 : Nat))))) then L f n (mkS (53 : Nat) [((0 : Nat), AVal.ro (Cont.ints IntKind.i64 xs) m (1 : Nat)), ((1 : Nat), AVal.int IntKind.i64 x), ((2 : Nat), AVal.int IntKind.i64 y), ((8 : Nat), AVal.own (1 : Nat) (0 : Nat) (k + (List.take (1 : Nat) (List.drop (0 : Nat) ((List.replicate (1 : Nat) (0 : Int)).set (0 : Nat) (↑i : Int)))).length) (0 : Nat) (1 : Nat)), ((23 : Nat), AVal.int IntKind.i64 N), ((24 : Nat), AVal.int IntKind.i64 (IntKind.i64.wrap ((↑i : Int) + (1 : Int))))] [{ c := BC.typ (Cont.ints IntKind.i64 [x, y]), ver := (0 : Nat) }, { c := BC.typ (Cont.ints IntKind.i64 (List.take k zs ++ List.take (1 : Nat) (List.drop (0 : Nat) ((List.replicate (1 : Nat) (0 : Int)).set (0 : Nat) (↑i : Int))))), ver := (0 : Nat) }]) else none else L f n (mkS (53 : Nat) [((0 : Nat), AVal.ro (Cont.ints IntKind.i64 xs) m (1 : Nat)), ((1 : Nat), AVal.int IntKind.i64 x), ((2 : Nat), AVal.int IntKind.i64 y), ((8 : Nat), AVal.own (1 : Nat) (0 : Nat) k (0 : Nat) (1 : Nat)), ((23 : Nat), AVal.int IntKind.i64 N), ((24 : Nat), AVal.int IntKind.i64 (IntKind.i64.wrap ((↑i : Int) + (1 : Int))))] [{ c := BC.typ (Cont.ints IntKind.i64 [x, y]), ver := (0 : Nat) }, { c := BC.typ (Cont.ints IntKind.i64 zs), ver := (0 : Nat) }]) else none else none else L f n (mkS (53 : Nat) [((0 : Nat), AVal.ro (Cont.ints IntKind.i64 xs) m (1 : Nat)), ((1 : Nat), AVal.int IntKind.i64 x), ((2 : Nat), AVal.int IntKind.i64 y), ((8 : Nat), AVal.own (1 : Nat) (0 : Nat) k (0 : Nat) (1 : Nat)), ((23 : Nat), AVal.int IntKind.i64 N), ((24 : Nat), AVal.int IntKind.i64 (IntKind.i64.wrap ((↑i : Int) + (1 : Int))))] [{ c := BC.typ (Cont.ints IntKind.i64 [x, y]), ver := (0 : Nat) }, { c := BC.typ (Cont.ints IntKind.i64 zs), ver := (0 : Nat) }]) else none else none else some (AVal.tup [AVal.own (1 : Nat) (0 : Nat) k (0 : Nat) (1 : Nat), AVal.bool (decide ((0 : Int) < (↑k : Int)))], [{ c := BC.typ (Cont.ints IntKind.i64 [x, y]), ver := (0 : Nat) }, { c := BC.typ (Cont.ints IntKind.i64 zs), ver := (0 : Nat) }])) := by kernel_rfl
theorem loop (xs : List Int) (m : Nat) (x y : Int) (res : List Int) (N f : Nat) (hx : m ≤ xs.length) (hN : 2 * N = m) (hb : m ≤ 1048576) : ∀ (d i n : Nat) (zs : List Int), i + d = N → d < n → zs.length ≤ 2 * i → zs ++ point.pick x y ((xs.take m).drop (2 * i)) i = res →
    L f n (mkS 53 [(0, .ro (.ints .i64 xs) m 1), (1, .int .i64 x), (2, .int .i64 y), (8, .own 1 0 zs.length 0 1), (23, .int .i64 N), (24, .int .i64 i)] [⟨.typ (.ints .i64 [x, y]), 0⟩, ⟨.typ (.ints .i64 zs), 0⟩]) = some (.tup [.own 1 0 res.length 0 1, .bool (decide (0 < res.length))], [⟨.typ (.ints .i64 [x, y]), 0⟩, ⟨.typ (.ints .i64 res), 0⟩]) := by
  intro d
  induction d with
  | zero =>
    intro i n zs hi hn hz hres
    obtain ⟨n, rfl⟩ : ∃ k, n = k + 1 := ⟨n - 1, by omega⟩
    obtain rfl : i = N := by omega
    rw [round]
    have e : (xs.take m).drop (2 * i) = [] := List.drop_of_length_le (by simp; omega)
    rw [e] at hres
    simp only [point.pick, List.append_nil] at hres
    subst hres
    have e2 : decide ((0 : Int) < (zs.length : Int)) = decide (0 < zs.length) := by congr 1; apply propext; omega
    simp only [Int.lt_irrefl, decide_false, cond_false, e2]
  | succ d ih =>
    intro i n zs hi hn hz hres
    obtain ⟨n, rfl⟩ : ∃ k, n = k + 1 := ⟨n - 1, by omega⟩
    have i1 : 2 * i < m := by omega
    have i2 : 2 * i + 1 < m := by omega
    have l1 : 2 * i < xs.length := by omega
    have l2 : 2 * i + 1 < xs.length := by omega
    have h5 : (i : Int) < (N : Int) := by omega
    have c1 : IntKind.i64.wrap (2 * (i : Int)) = ((2 * i : Nat) : Int) := by rw [IntWalk.i64_in _ (by omega)]; omega
    have c2 : IntKind.i64.wrap (((2 * i : Nat) : Int) + 1) = ((2 * i + 1 : Nat) : Int) := by rw [IntWalk.i64_in _ (by omega)]; omega
    have d1 : (0 : Int) ≤ ((2 * i : Nat) : Int) := Int.natCast_nonneg _
    have d2 : ((2 * i : Nat) : Int) < (m : Int) := by omega
    have d3 : (0 : Int) ≤ ((2 * i + 1 : Nat) : Int) := Int.natCast_nonneg _
    have d4 : ((2 * i + 1 : Nat) : Int) < (m : Int) := by omega
    have e2 : 2 * i + 1 + 1 = 2 * (i + 1) := by omega
    rw [drop_take_cons hx i1, drop_take_cons hx i2, e2] at hres
    simp only [point.pick] at hres
    rw [round, c1, c2, Int.toNat_natCast, Int.toNat_natCast, gz_eq l1, gz_eq l2, wrap_nat i (by omega)]
    have k0 : zs.length + 1 ≤ 4611686018427387904 := by omega
    have k1 : (zs.length + 1) * 8 ≤ 140737488355328 := by omega
    simp only [h5, d1, d2, d3, d4, l1, l2, k0, k1, Nat.le_refl, List.take_length, decide_true, Bool.and_self, Bool.or_self, Bool.and_true, Bool.true_and, Bool.or_true, cond_true, one_set, List.length_singleton, Nat.reduceBEq]
    by_cases ca : x ≤ xs[2 * i]
    · by_cases cb : y ≤ xs[2 * i + 1]
      · simp only [ca, cb, decide_true, Bool.and_self, cond_true] at hres ⊢
        have hyes := ih (i + 1) n (zs ++ [(i : Int)]) (by omega) (by omega) (by simp; omega) (by simpa using hres)
        simp only [List.length_append, List.length_cons, List.length_nil, Nat.zero_add] at hyes
        exact hyes
      · simp only [ca, cb, decide_true, decide_false, Bool.and_false, cond_true, cond_false] at hres ⊢
        exact ih (i + 1) n zs (by omega) (by omega) (by omega) hres
    · simp only [ca, decide_false, Bool.false_and, cond_false] at hres ⊢
      exact ih (i + 1) n zs (by omega) (by omega) (by omega) hres
theorem run : ∀ args v new, R args = some (true, v, new) → ∃ fuel, regc [1] (runFn Try.prog (orc [⟨16, iIsBargain.R⟩, ⟨80, areWithin.R⟩]) hd Dr.std none fuel (bodyOf Try.f88) 53 [6, 7] args []) = some (v, new) := by
  intro args v new h
  unfold R at h
  split at h
  · rename_i xs m x y
    simp only [Option.some.injEq, Prod.mk.injEq, Bool.and_eq_true, decide_eq_true_eq] at h
    obtain ⟨⟨⟨h1, h2⟩, hv⟩, rfl, rfl⟩ := h
    have hlen : (xs.take m).length = m := by simp; omega
    obtain ⟨⟨v1, v2, v3⟩, v4, v5, v6⟩ := point.valid hv
    rw [hlen] at v1 v2 v3
    have hv' := hv
    simp only [point.sp, Bool.and_eq_true] at hv'
    obtain ⟨⟨p1, p2, p3⟩, p4, p5⟩ := hv'
    refine ⟨m + 1, ?_⟩
    rw [start]
    have hl := loop xs m x y (point.sv (xs.take m) x y) (m / 2) (m + 1) h1 (by omega) (by omega) (m / 2) 0 (m + 1) [] (by omega) (by omega) (by simp) (by simp [point.sv])
    have c5 : IntKind.i64.wrap (((m : Int)).tdiv 2) = ((m / 2 : Nat) : Int) := by
      have : (m : Int) = 2 * ((m / 2 : Nat) : Int) := by omega
      rw [this, Int.mul_tdiv_cancel_left _ (by decide)]
      exact IntWalk.i64_in _ (by omega)
    rw [c5]
    have hl' : L (m + 1) (m + 1) (mkS 53 [(0, .ro (.ints .i64 xs) m 1), (1, .int .i64 x), (2, .int .i64 y), (8, .own 1 0 0 0 1), (23, .int .i64 ((m / 2 : Nat) : Int)), (24, .int .i64 0)] [⟨.typ (.ints .i64 [x, y]), 0⟩, ⟨.typ (.ints .i64 []), 0⟩]) = _ := hl
    simp only [h1, h2, p1, p2, p3, p4, p5, two_set, two_len, two_le, two_take, List.all_cons, List.all_nil, Nat.le_refl, and_self, decide_true, Bool.and_self, Bool.or_self, Bool.true_and, Bool.and_true, Bool.or_true, cond_true, cond_false, Bool.not_true]
    have hgo : regc [1] (L (m + 1) (m + 1) (mkS 53 [(0, .ro (.ints .i64 xs) m 1), (1, .int .i64 x), (2, .int .i64 y), (8, .own 1 0 0 0 1), (23, .int .i64 ((m / 2 : Nat) : Int)), (24, .int .i64 0)] [⟨.typ (.ints .i64 [x, y]), 0⟩, ⟨.typ (.ints .i64 []), 0⟩])) = _ := congrArg (regc [1]) hl'
    exact hgo.trans rfl
  · cases h
theorem ok : EntOk Try.prog ⟨88, R⟩ :=
  ent_okAG (ks := [1]) mixed (A := (orc [⟨16, iIsBargain.R⟩, ⟨80, areWithin.R⟩])) (orc_ok (by simp only [List.mem_cons, List.not_mem_nil, or_false, forall_eq_or_imp, forall_eq]; exact ⟨iIsBargain.ok, areWithin.ok⟩)) Try.func88 (by kernel_rfl) (by kernel_rfl) (n := 53) (ts := [6, 7]) (hd := hd) (dr := Dr.std) (cut := none) (by kernel_rfl) (by kernel_rfl) (by kernel_rfl) run
end better

namespace betterF
def R : List AVal → Option (Bool × AVal × List Blk)
  | [.ro (.ints .i64 xs) m 1, .int .i64 x, .int .i64 y] => some (decide (m ≤ xs.length ∧ m ≤ 4611686018427387904) && !point.sp (xs.take m) x y, .tup [.nils, .bool false], [])
  | _ => none
def hd : Nat → Head := fun _ => ⟨[0, 1, 2, 8, 23, 24], some 2⟩
noncomputable def L (f n : Nat) (s : State) := loopAt Try.prog (orc [⟨16, iIsBargain.R⟩, ⟨80, areWithin.R⟩]) hd Dr.std 0 f (bodyOf Try.f88) 0 [true, true, true, false, true] (retK Try.prog [6, 7] 0 (some 0)) n s
theorem start (xs : List Int) (m : Nat) (x y : Int) (f : Nat) :
  runFn Try.prog (orc [⟨16, iIsBargain.R⟩, ⟨80, areWithin.R⟩]) hd Dr.std (some 0) f (bodyOf Try.f88) 53 [6, 7] [.ro (.ints .i64 xs) m 1, .int .i64 x, .int .i64 y] []
  = (bif decide (m ≤ xs.length ∧ m ≤ (4611686018427387904 : Nat)) && (true && true || true && true) then bif !l07Points.sp (List.take m xs) then some (AVal.tup [AVal.nils, AVal.bool false], []) else bif decide ((2 : Nat) ≤ (((List.replicate (2 : Nat) (0 : Int)).set (0 : Nat) x).set (1 : Nat) y).length ∧ (2 : Nat) ≤ (4611686018427387904 : Nat)) && (false && true || true && true) then bif !(List.take (2 : Nat) (((List.replicate (2 : Nat) (0 : Int)).set (0 : Nat) x).set (1 : Nat) y)).all fun x => decide ((0 : Int) ≤ x) && decide (x ≤ (1000 : Int)) then some (AVal.tup [AVal.nils, AVal.bool false], []) else L f f (mkS (53 : Nat) [((0 : Nat), AVal.ro (Cont.ints IntKind.i64 xs) m (1 : Nat)), ((1 : Nat), AVal.int IntKind.i64 x), ((2 : Nat), AVal.int IntKind.i64 y), ((8 : Nat), AVal.own (1 : Nat) (0 : Nat) (0 : Nat) (0 : Nat) (1 : Nat)), ((23 : Nat), AVal.int IntKind.i64 (IntKind.i64.wrap ((↑m : Int).tdiv (2 : Int)))), ((24 : Nat), AVal.int IntKind.i64 (0 : Int))] [{ c := BC.typ (Cont.ints IntKind.i64 (((List.replicate (2 : Nat) (0 : Int)).set (0 : Nat) x).set (1 : Nat) y)), ver := (0 : Nat) }, { c := BC.typ (Cont.ints IntKind.i64 (List.replicate (0 : Nat) (0 : Int))), ver := (0 : Nat) }]) else none else none) := by kernel_rfl
theorem run : ∀ args v new, R args = some (true, v, new) → ∃ fuel, runFn Try.prog (orc [⟨16, iIsBargain.R⟩, ⟨80, areWithin.R⟩]) hd Dr.std (some 0) fuel (bodyOf Try.f88) 53 [6, 7] args [] = some (v, new) := by
  intro args v new h
  unfold R at h
  split at h
  · rename_i xs m x y
    simp only [Option.some.injEq, Prod.mk.injEq, Bool.and_eq_true, decide_eq_true_eq, Bool.not_eq_true'] at h
    obtain ⟨⟨⟨h1, h2⟩, hv⟩, rfl, rfl⟩ := h
    refine ⟨0, ?_⟩
    rw [start]
    simp only [two_set, two_len, two_le, two_take, Nat.le_refl, List.all_cons, List.all_nil, h1, h2, and_self, decide_true, Bool.and_self, Bool.or_self, Bool.true_and, Bool.and_true, Bool.or_true, cond_true]
    unfold point.sp at hv
    cases hb : l07Points.sp (xs.take m)
    · rfl
    · rw [hb] at hv
      simp only [Bool.true_and] at hv
      simp only [Bool.not_true, cond_false, hv, Bool.not_false, cond_true]
  · cases h
theorem ok : EntOk Try.prog ⟨88, R⟩ :=
  ent_okA mixed (A := (orc [⟨16, iIsBargain.R⟩, ⟨80, areWithin.R⟩])) (orc_ok (by simp only [List.mem_cons, List.not_mem_nil, or_false, forall_eq_or_imp, forall_eq]; exact ⟨iIsBargain.ok, areWithin.ok⟩)) Try.func88 (by kernel_rfl) (by kernel_rfl) (n := 53) (ts := [6, 7]) (hd := hd) (dr := Dr.std) (cut := (some 0)) (by kernel_rfl) (by kernel_rfl) (by kernel_rfl) run
end betterF

namespace greatLeastPoint
def R : List AVal → Option (Bool × AVal × List Blk)
  | [.ro (.ints .i64 xs) m 1, .int .i64 x, .int .i64 y, .fn ff []] => some (decide (m ≤ xs.length ∧ m ≤ 4611686018427387904 ∧ ff = 74) && point.sp (xs.take m) x y, .tup [.int .i64 (point.least.sw (xs.take m) x y), .bool (point.sq (xs.take m) x y)], [])
  | _ => none
def hd : Nat → Head := fun _ => ⟨[0, 1, 2, 3, 12, 13, 26, 27, 28], some 1⟩
noncomputable def L (f n : Nat) (s : State) := loopAt Try.prog (orc [⟨88, better.R⟩, ⟨74, leastPoint_1.R⟩]) hd Dr.std 0 f (bodyOf Try.f73) 0 [true, true, true, true, false, true] (retK Try.prog [8, 9] 0 (some 0)) n s
theorem start (xs : List Int) (m : Nat) (x y : Int) (f : Nat) :
  runFn Try.prog (orc [⟨88, better.R⟩, ⟨74, leastPoint_1.R⟩]) hd Dr.std (some 0) f (bodyOf Try.f73) 60 [8, 9] [.ro (.ints .i64 xs) m 1, .int .i64 x, .int .i64 y, .fn 74 []] []
  = (bif decide (m ≤ xs.length ∧ m ≤ (4611686018427387904 : Nat)) && point.sp (List.take m xs) x y && (true && (true && (true && true)) || true && (true && true) && (true && true)) then bif !decide ((0 : Nat) < (point.sv (List.take m xs) x y).length) then some (AVal.tup [AVal.int IntKind.i64 (0 : Int), AVal.bool false], []) else L f f (mkS (60 : Nat) [((0 : Nat), AVal.ro (Cont.ints IntKind.i64 xs) m (1 : Nat)), ((1 : Nat), AVal.int IntKind.i64 x), ((2 : Nat), AVal.int IntKind.i64 y), ((3 : Nat), AVal.fn (74 : Nat) []), ((12 : Nat), AVal.int IntKind.i64 (-1 : Int)), ((13 : Nat), AVal.int IntKind.i64 (0 : Int)), ((26 : Nat), AVal.own (0 : Nat) (0 : Nat) (point.sv (List.take m xs) x y).length (0 : Nat) (1 : Nat)), ((27 : Nat), AVal.int IntKind.i64 (↑(point.sv (List.take m xs) x y).length : Int)), ((28 : Nat), AVal.int IntKind.i64 (0 : Int))] [{ c := BC.typ (Cont.ints IntKind.i64 (point.sv (List.take m xs) x y)), ver := (0 : Nat) }]) else none) := by kernel_rfl
theorem round (xs : List Int) (m : Nat) (x y : Int) (zs : List Int) (best most : Int) (k i f n : Nat) :
  L f (n + 1) (mkS 60 [(0, .ro (.ints .i64 xs) m 1), (1, .int .i64 x), (2, .int .i64 y), (3, .fn 74 []), (12, .int .i64 best), (13, .int .i64 most), (26, .own 0 0 k 0 1), (27, .int .i64 k), (28, .int .i64 i)] [⟨.typ (.ints .i64 zs), 0⟩])
  = (bif decide ((↑i : Int) < (↑k : Int)) then bif true && (decide ((0 : Int) ≤ (↑i : Int)) && decide ((↑i : Int) < (↑k : Int))) then bif true && decide ((↑i : Int).toNat < zs.length) then bif true && (decide ((0 : Int) ≤ IntKind.i64.wrap ((2 : Int) * gz zs (↑i : Int).toNat)) && decide (IntKind.i64.wrap ((2 : Int) * gz zs (↑i : Int).toNat) < (↑m : Int))) then bif decide ((IntKind.i64.wrap ((2 : Int) * gz zs (↑i : Int).toNat)).toNat < xs.length) then bif true && (decide ((0 : Int) ≤ IntKind.i64.wrap (IntKind.i64.wrap ((2 : Int) * gz zs (↑i : Int).toNat) + (1 : Int))) && decide (IntKind.i64.wrap (IntKind.i64.wrap ((2 : Int) * gz zs (↑i : Int).toNat) + (1 : Int)) < (↑m : Int))) then bif decide ((IntKind.i64.wrap (IntKind.i64.wrap ((2 : Int) * gz zs (↑i : Int).toNat) + (1 : Int))).toNat < xs.length) then bif true && (true && (true && true) || true && true) then bif decide (best < (0 : Int)) then L f n (mkS (60 : Nat) [((0 : Nat), AVal.ro (Cont.ints IntKind.i64 xs) m (1 : Nat)), ((1 : Nat), AVal.int IntKind.i64 x), ((2 : Nat), AVal.int IntKind.i64 y), ((3 : Nat), AVal.fn (74 : Nat) []), ((12 : Nat), AVal.int IntKind.i64 (gz zs (↑i : Int).toNat)), ((13 : Nat), AVal.int IntKind.i64 (point.gmin.sv (IntKind.i64.wrap (gz xs (IntKind.i64.wrap ((2 : Int) * gz zs (↑i : Int).toNat)).toNat - x)) (IntKind.i64.wrap (gz xs (IntKind.i64.wrap (IntKind.i64.wrap ((2 : Int) * gz zs (↑i : Int).toNat) + (1 : Int))).toNat - y)))), ((26 : Nat), AVal.own (0 : Nat) (0 : Nat) k (0 : Nat) (1 : Nat)), ((27 : Nat), AVal.int IntKind.i64 (↑k : Int)), ((28 : Nat), AVal.int IntKind.i64 (IntKind.i64.wrap ((↑i : Int) + (1 : Int))))] [{ c := BC.typ (Cont.ints IntKind.i64 zs), ver := (0 : Nat) }]) else bif decide (most < point.gmin.sv (IntKind.i64.wrap (gz xs (IntKind.i64.wrap ((2 : Int) * gz zs (↑i : Int).toNat)).toNat - x)) (IntKind.i64.wrap (gz xs (IntKind.i64.wrap (IntKind.i64.wrap ((2 : Int) * gz zs (↑i : Int).toNat) + (1 : Int))).toNat - y))) then L f n (mkS (60 : Nat) [((0 : Nat), AVal.ro (Cont.ints IntKind.i64 xs) m (1 : Nat)), ((1 : Nat), AVal.int IntKind.i64 x), ((2 : Nat), AVal.int IntKind.i64 y), ((3 : Nat), AVal.fn (74 : Nat) []), ((12 : Nat), AVal.int IntKind.i64 (gz zs (↑i : Int).toNat)), ((13 : Nat), AVal.int IntKind.i64 (point.gmin.sv (IntKind.i64.wrap (gz xs (IntKind.i64.wrap ((2 : Int) * gz zs (↑i : Int).toNat)).toNat - x)) (IntKind.i64.wrap (gz xs (IntKind.i64.wrap (IntKind.i64.wrap ((2 : Int) * gz zs (↑i : Int).toNat) + (1 : Int))).toNat - y)))), ((26 : Nat), AVal.own (0 : Nat) (0 : Nat) k (0 : Nat) (1 : Nat)), ((27 : Nat), AVal.int IntKind.i64 (↑k : Int)), ((28 : Nat), AVal.int IntKind.i64 (IntKind.i64.wrap ((↑i : Int) + (1 : Int))))] [{ c := BC.typ (Cont.ints IntKind.i64 zs), ver := (0 : Nat) }]) else L f n (mkS (60 : Nat) [((0 : Nat), AVal.ro (Cont.ints IntKind.i64 xs) m (1 : Nat)), ((1 : Nat), AVal.int IntKind.i64 x), ((2 : Nat), AVal.int IntKind.i64 y), ((3 : Nat), AVal.fn (74 : Nat) []), ((12 : Nat), AVal.int IntKind.i64 best), ((13 : Nat), AVal.int IntKind.i64 most), ((26 : Nat), AVal.own (0 : Nat) (0 : Nat) k (0 : Nat) (1 : Nat)), ((27 : Nat), AVal.int IntKind.i64 (↑k : Int)), ((28 : Nat), AVal.int IntKind.i64 (IntKind.i64.wrap ((↑i : Int) + (1 : Int))))] [{ c := BC.typ (Cont.ints IntKind.i64 zs), ver := (0 : Nat) }]) else none else none else none else none else none else none else none else some (AVal.tup [AVal.int IntKind.i64 best, AVal.bool true], [])) := by kernel_rfl
theorem loop (xs : List Int) (m : Nat) (x y : Int) (zs : List Int) (f : Nat) (hx : m ≤ xs.length) (hb : m ≤ 1048576) (hv : ∀ v ∈ xs.take m, 0 ≤ v ∧ v ≤ 1000) (hx0 : 0 ≤ x ∧ x ≤ 1000) (hy0 : 0 ≤ y ∧ y ≤ 1000) (hz : ∀ k ∈ zs, ∃ i : Nat, k = i ∧ 2 * i + 1 < m) (hzl : zs.length ≤ 1048576) : ∀ (d i n : Nat) (best most : Int), i + d = zs.length → d < n →
    L f n (mkS 60 [(0, .ro (.ints .i64 xs) m 1), (1, .int .i64 x), (2, .int .i64 y), (3, .fn 74 []), (12, .int .i64 best), (13, .int .i64 most), (26, .own 0 0 zs.length 0 1), (27, .int .i64 zs.length), (28, .int .i64 i)] [⟨.typ (.ints .i64 zs), 0⟩]) = some (.tup [.int .i64 (point.great point.gmin.sv (xs.take m) x y (zs.drop i) best most), .bool true], []) := by
  intro d
  induction d with
  | zero =>
    intro i n best most hi hn 
    obtain ⟨n, rfl⟩ : ∃ k, n = k + 1 := ⟨n - 1, by omega⟩
    obtain rfl : i = zs.length := by omega
    rw [round]
    have e : zs.drop zs.length = [] := by simp
    rw [e]
    simp [point.great]
  | succ d ih =>
    intro i n best most hi hn 
    obtain ⟨n, rfl⟩ : ∃ k, n = k + 1 := ⟨n - 1, by omega⟩
    have h1 : i < zs.length := by omega
    have h4 : (0 : Int) ≤ (i : Int) := Int.natCast_nonneg _
    have h5 : (i : Int) < (zs.length : Int) := by omega
    rw [round]
    obtain ⟨q, hq1, hq2⟩ := hz zs[i] (List.getElem_mem h1)
    have l1 : 2 * q < xs.length := by omega
    have l2 : 2 * q + 1 < xs.length := by omega
    have c1 : IntKind.i64.wrap (2 * (q : Int)) = ((2 * q : Nat) : Int) := by rw [IntWalk.i64_in _ (by omega)]; omega
    have c2 : IntKind.i64.wrap (((2 * q : Nat) : Int) + 1) = ((2 * q + 1 : Nat) : Int) := by rw [IntWalk.i64_in _ (by omega)]; omega
    have d1 : (0 : Int) ≤ ((2 * q : Nat) : Int) := Int.natCast_nonneg _
    have d2 : ((2 * q : Nat) : Int) < (m : Int) := by omega
    have d3 : (0 : Int) ≤ ((2 * q + 1 : Nat) : Int) := Int.natCast_nonneg _
    have d4 : ((2 * q + 1 : Nat) : Int) < (m : Int) := by omega
    have va := hv xs[2 * q] (List.mem_take_iff_getElem.2 ⟨2 * q, by omega, rfl⟩)
    have vb := hv xs[2 * q + 1] (List.mem_take_iff_getElem.2 ⟨2 * q + 1, by omega, rfl⟩)
    have w1 : IntKind.i64.wrap (xs[2 * q] - x) = xs[2 * q] - x := IntWalk.i64_in _ (by omega)
    have w2 : IntKind.i64.wrap (xs[2 * q + 1] - y) = xs[2 * q + 1] - y := IntWalk.i64_in _ (by omega)
    have e0 : (2 * (q : Int)).toNat = 2 * q := by omega
    have e1 : (2 * (q : Int) + 1).toNat = 2 * q + 1 := by omega
    have t1 : gz (xs.take m) (2 * q) = xs[2 * q] := by rw [gz_eq (by simp; omega)]; simp
    have t2 : gz (xs.take m) (2 * q + 1) = xs[2 * q + 1] := by rw [gz_eq (by simp; omega)]; simp
    have hr := fun b' m' => ih (i + 1) n b' m' (by omega) (by omega)
    rw [List.drop_eq_getElem_cons h1]
    simp only [t1, t2, Int.toNat_natCast, gz_eq h1, hq1, c1, c2, gz_eq l1, gz_eq l2, w1, w2, wrap_nat i (by omega), h4, h5, h1, d1, d2, d3, d4, l1, l2, Nat.zero_add, Nat.add_zero, Nat.mul_one, decide_true, Bool.and_self, Bool.or_self, Bool.and_true, Bool.true_and, cond_true, point.great, e0, e1]
    generalize point.gmin.sv (xs[2 * q] - x) (xs[2 * q + 1] - y) = gg
    cases decide (best < 0)
    · simp only [cond_false, Bool.false_or]
      cases decide (most < gg)
      · exact hr _ _
      · exact hr _ _
    · exact hr _ _
theorem run : ∀ args v new, R args = some (true, v, new) → ∃ fuel, runFn Try.prog (orc [⟨88, better.R⟩, ⟨74, leastPoint_1.R⟩]) hd Dr.std (some 0) fuel (bodyOf Try.f73) 60 [8, 9] args [] = some (v, new) := by
  intro args v new h
  unfold R at h
  split at h
  · rename_i xs m x y ff
    simp only [Option.some.injEq, Prod.mk.injEq, Bool.and_eq_true, decide_eq_true_eq] at h
    obtain ⟨⟨⟨h1, h2, rfl⟩, hv⟩, rfl, rfl⟩ := h
    have hlen : (xs.take m).length = m := by simp; omega
    obtain ⟨⟨v1, v2, v3⟩, v4, v5, v6⟩ := point.valid hv
    rw [hlen] at v1 v2 v3
    have hin := point.pick_in x y (xs.take m) 0
    have hpl := point.pick_len x y (xs.take m) 0
    rw [hlen] at hin hpl
    refine ⟨(point.sv (xs.take m) x y).length + 1, ?_⟩
    rw [start]
    have hg := point.great_pick point.gmin.sv (xs.take m) x y (xs.take m) 0 (-1) 0 rfl
    have hl := loop xs m x y (point.sv (xs.take m) x y) ((point.sv (xs.take m) x y).length + 1) h1 (by omega) v4 v5 v6 (fun k hk => by
      obtain ⟨i, a1, a2, a3⟩ := hin k hk
      exact ⟨i, a1, by omega⟩) (by unfold point.sv; omega) (point.sv (xs.take m) x y).length 0 ((point.sv (xs.take m) x y).length + 1) (-1) 0 (by omega) (by omega)
    simp only [h1, h2, hv, and_self, decide_true, Bool.and_self, Bool.or_self, Bool.true_and, Bool.and_true, Bool.or_true, cond_true, point.sq, point.least.sw, point.best]
    rw [List.drop_zero] at hl
    have hl2 := hl.trans (congrArg (fun z => some (AVal.tup [.int .i64 z, .bool true], ([] : List Blk))) hg)
    by_cases hp : 0 < (point.sv (xs.take m) x y).length
    · simp only [hp, decide_true, Bool.not_true, cond_false, cond_true]
      exact hl2
    · simp only [hp, decide_false, Bool.not_false, cond_true, cond_false]
  · cases h
theorem ok : EntOk Try.prog ⟨73, R⟩ :=
  ent_okA mixed (A := (orc [⟨88, better.R⟩, ⟨74, leastPoint_1.R⟩])) (orc_ok (by simp only [List.mem_cons, List.not_mem_nil, or_false, forall_eq_or_imp, forall_eq]; exact ⟨better.ok, leastPoint_1.ok⟩)) Try.func73 (by kernel_rfl) (by kernel_rfl) (n := 60) (ts := [8, 9]) (hd := hd) (dr := Dr.std) (cut := (some 0)) (by kernel_rfl) (by kernel_rfl) (by kernel_rfl) run
end greatLeastPoint

namespace greatProductPoint
def R : List AVal → Option (Bool × AVal × List Blk)
  | [.ro (.ints .i64 xs) m 1, .int .i64 x, .int .i64 y, .fn ff []] => some (decide (m ≤ xs.length ∧ m ≤ 4611686018427387904 ∧ ff = 75) && point.sp (xs.take m) x y, .tup [.int .i64 (point.prod.sw (xs.take m) x y), .bool (point.sq (xs.take m) x y)], [])
  | _ => none
def hd : Nat → Head := fun _ => ⟨[0, 1, 2, 3, 12, 13, 26, 27, 28], some 1⟩
noncomputable def L (f n : Nat) (s : State) := loopAt Try.prog (orc [⟨88, better.R⟩, ⟨75, productPoint_1.R⟩]) hd Dr.std 0 f (bodyOf Try.f73) 0 [true, true, true, true, false, true] (retK Try.prog [8, 9] 0 (some 0)) n s
theorem start (xs : List Int) (m : Nat) (x y : Int) (f : Nat) :
  runFn Try.prog (orc [⟨88, better.R⟩, ⟨75, productPoint_1.R⟩]) hd Dr.std (some 0) f (bodyOf Try.f73) 60 [8, 9] [.ro (.ints .i64 xs) m 1, .int .i64 x, .int .i64 y, .fn 75 []] []
  = (bif decide (m ≤ xs.length ∧ m ≤ (4611686018427387904 : Nat)) && point.sp (List.take m xs) x y && (true && (true && (true && true)) || true && (true && true) && (true && true)) then bif !decide ((0 : Nat) < (point.sv (List.take m xs) x y).length) then some (AVal.tup [AVal.int IntKind.i64 (0 : Int), AVal.bool false], []) else L f f (mkS (60 : Nat) [((0 : Nat), AVal.ro (Cont.ints IntKind.i64 xs) m (1 : Nat)), ((1 : Nat), AVal.int IntKind.i64 x), ((2 : Nat), AVal.int IntKind.i64 y), ((3 : Nat), AVal.fn (75 : Nat) []), ((12 : Nat), AVal.int IntKind.i64 (-1 : Int)), ((13 : Nat), AVal.int IntKind.i64 (0 : Int)), ((26 : Nat), AVal.own (0 : Nat) (0 : Nat) (point.sv (List.take m xs) x y).length (0 : Nat) (1 : Nat)), ((27 : Nat), AVal.int IntKind.i64 (↑(point.sv (List.take m xs) x y).length : Int)), ((28 : Nat), AVal.int IntKind.i64 (0 : Int))] [{ c := BC.typ (Cont.ints IntKind.i64 (point.sv (List.take m xs) x y)), ver := (0 : Nat) }]) else none) := by kernel_rfl
theorem round (xs : List Int) (m : Nat) (x y : Int) (zs : List Int) (best most : Int) (k i f n : Nat) :
  L f (n + 1) (mkS 60 [(0, .ro (.ints .i64 xs) m 1), (1, .int .i64 x), (2, .int .i64 y), (3, .fn 75 []), (12, .int .i64 best), (13, .int .i64 most), (26, .own 0 0 k 0 1), (27, .int .i64 k), (28, .int .i64 i)] [⟨.typ (.ints .i64 zs), 0⟩])
  = (bif decide ((↑i : Int) < (↑k : Int)) then bif true && (decide ((0 : Int) ≤ (↑i : Int)) && decide ((↑i : Int) < (↑k : Int))) then bif true && decide ((↑i : Int).toNat < zs.length) then bif true && (decide ((0 : Int) ≤ IntKind.i64.wrap ((2 : Int) * gz zs (↑i : Int).toNat)) && decide (IntKind.i64.wrap ((2 : Int) * gz zs (↑i : Int).toNat) < (↑m : Int))) then bif decide ((IntKind.i64.wrap ((2 : Int) * gz zs (↑i : Int).toNat)).toNat < xs.length) then bif true && (decide ((0 : Int) ≤ IntKind.i64.wrap (IntKind.i64.wrap ((2 : Int) * gz zs (↑i : Int).toNat) + (1 : Int))) && decide (IntKind.i64.wrap (IntKind.i64.wrap ((2 : Int) * gz zs (↑i : Int).toNat) + (1 : Int)) < (↑m : Int))) then bif decide ((IntKind.i64.wrap (IntKind.i64.wrap ((2 : Int) * gz zs (↑i : Int).toNat) + (1 : Int))).toNat < xs.length) then bif true && (true && (true && true) || true && true) then bif decide (best < (0 : Int)) then L f n (mkS (60 : Nat) [((0 : Nat), AVal.ro (Cont.ints IntKind.i64 xs) m (1 : Nat)), ((1 : Nat), AVal.int IntKind.i64 x), ((2 : Nat), AVal.int IntKind.i64 y), ((3 : Nat), AVal.fn (75 : Nat) []), ((12 : Nat), AVal.int IntKind.i64 (gz zs (↑i : Int).toNat)), ((13 : Nat), AVal.int IntKind.i64 (point.gmul.sv (IntKind.i64.wrap (gz xs (IntKind.i64.wrap ((2 : Int) * gz zs (↑i : Int).toNat)).toNat - x)) (IntKind.i64.wrap (gz xs (IntKind.i64.wrap (IntKind.i64.wrap ((2 : Int) * gz zs (↑i : Int).toNat) + (1 : Int))).toNat - y)))), ((26 : Nat), AVal.own (0 : Nat) (0 : Nat) k (0 : Nat) (1 : Nat)), ((27 : Nat), AVal.int IntKind.i64 (↑k : Int)), ((28 : Nat), AVal.int IntKind.i64 (IntKind.i64.wrap ((↑i : Int) + (1 : Int))))] [{ c := BC.typ (Cont.ints IntKind.i64 zs), ver := (0 : Nat) }]) else bif decide (most < point.gmul.sv (IntKind.i64.wrap (gz xs (IntKind.i64.wrap ((2 : Int) * gz zs (↑i : Int).toNat)).toNat - x)) (IntKind.i64.wrap (gz xs (IntKind.i64.wrap (IntKind.i64.wrap ((2 : Int) * gz zs (↑i : Int).toNat) + (1 : Int))).toNat - y))) then L f n (mkS (60 : Nat) [((0 : Nat), AVal.ro (Cont.ints IntKind.i64 xs) m (1 : Nat)), ((1 : Nat), AVal.int IntKind.i64 x), ((2 : Nat), AVal.int IntKind.i64 y), ((3 : Nat), AVal.fn (75 : Nat) []), ((12 : Nat), AVal.int IntKind.i64 (gz zs (↑i : Int).toNat)), ((13 : Nat), AVal.int IntKind.i64 (point.gmul.sv (IntKind.i64.wrap (gz xs (IntKind.i64.wrap ((2 : Int) * gz zs (↑i : Int).toNat)).toNat - x)) (IntKind.i64.wrap (gz xs (IntKind.i64.wrap (IntKind.i64.wrap ((2 : Int) * gz zs (↑i : Int).toNat) + (1 : Int))).toNat - y)))), ((26 : Nat), AVal.own (0 : Nat) (0 : Nat) k (0 : Nat) (1 : Nat)), ((27 : Nat), AVal.int IntKind.i64 (↑k : Int)), ((28 : Nat), AVal.int IntKind.i64 (IntKind.i64.wrap ((↑i : Int) + (1 : Int))))] [{ c := BC.typ (Cont.ints IntKind.i64 zs), ver := (0 : Nat) }]) else L f n (mkS (60 : Nat) [((0 : Nat), AVal.ro (Cont.ints IntKind.i64 xs) m (1 : Nat)), ((1 : Nat), AVal.int IntKind.i64 x), ((2 : Nat), AVal.int IntKind.i64 y), ((3 : Nat), AVal.fn (75 : Nat) []), ((12 : Nat), AVal.int IntKind.i64 best), ((13 : Nat), AVal.int IntKind.i64 most), ((26 : Nat), AVal.own (0 : Nat) (0 : Nat) k (0 : Nat) (1 : Nat)), ((27 : Nat), AVal.int IntKind.i64 (↑k : Int)), ((28 : Nat), AVal.int IntKind.i64 (IntKind.i64.wrap ((↑i : Int) + (1 : Int))))] [{ c := BC.typ (Cont.ints IntKind.i64 zs), ver := (0 : Nat) }]) else none else none else none else none else none else none else none else some (AVal.tup [AVal.int IntKind.i64 best, AVal.bool true], [])) := by kernel_rfl
theorem loop (xs : List Int) (m : Nat) (x y : Int) (zs : List Int) (f : Nat) (hx : m ≤ xs.length) (hb : m ≤ 1048576) (hv : ∀ v ∈ xs.take m, 0 ≤ v ∧ v ≤ 1000) (hx0 : 0 ≤ x ∧ x ≤ 1000) (hy0 : 0 ≤ y ∧ y ≤ 1000) (hz : ∀ k ∈ zs, ∃ i : Nat, k = i ∧ 2 * i + 1 < m) (hzl : zs.length ≤ 1048576) : ∀ (d i n : Nat) (best most : Int), i + d = zs.length → d < n →
    L f n (mkS 60 [(0, .ro (.ints .i64 xs) m 1), (1, .int .i64 x), (2, .int .i64 y), (3, .fn 75 []), (12, .int .i64 best), (13, .int .i64 most), (26, .own 0 0 zs.length 0 1), (27, .int .i64 zs.length), (28, .int .i64 i)] [⟨.typ (.ints .i64 zs), 0⟩]) = some (.tup [.int .i64 (point.great point.gmul.sv (xs.take m) x y (zs.drop i) best most), .bool true], []) := by
  intro d
  induction d with
  | zero =>
    intro i n best most hi hn 
    obtain ⟨n, rfl⟩ : ∃ k, n = k + 1 := ⟨n - 1, by omega⟩
    obtain rfl : i = zs.length := by omega
    rw [round]
    have e : zs.drop zs.length = [] := by simp
    rw [e]
    simp [point.great]
  | succ d ih =>
    intro i n best most hi hn 
    obtain ⟨n, rfl⟩ : ∃ k, n = k + 1 := ⟨n - 1, by omega⟩
    have h1 : i < zs.length := by omega
    have h4 : (0 : Int) ≤ (i : Int) := Int.natCast_nonneg _
    have h5 : (i : Int) < (zs.length : Int) := by omega
    rw [round]
    obtain ⟨q, hq1, hq2⟩ := hz zs[i] (List.getElem_mem h1)
    have l1 : 2 * q < xs.length := by omega
    have l2 : 2 * q + 1 < xs.length := by omega
    have c1 : IntKind.i64.wrap (2 * (q : Int)) = ((2 * q : Nat) : Int) := by rw [IntWalk.i64_in _ (by omega)]; omega
    have c2 : IntKind.i64.wrap (((2 * q : Nat) : Int) + 1) = ((2 * q + 1 : Nat) : Int) := by rw [IntWalk.i64_in _ (by omega)]; omega
    have d1 : (0 : Int) ≤ ((2 * q : Nat) : Int) := Int.natCast_nonneg _
    have d2 : ((2 * q : Nat) : Int) < (m : Int) := by omega
    have d3 : (0 : Int) ≤ ((2 * q + 1 : Nat) : Int) := Int.natCast_nonneg _
    have d4 : ((2 * q + 1 : Nat) : Int) < (m : Int) := by omega
    have va := hv xs[2 * q] (List.mem_take_iff_getElem.2 ⟨2 * q, by omega, rfl⟩)
    have vb := hv xs[2 * q + 1] (List.mem_take_iff_getElem.2 ⟨2 * q + 1, by omega, rfl⟩)
    have w1 : IntKind.i64.wrap (xs[2 * q] - x) = xs[2 * q] - x := IntWalk.i64_in _ (by omega)
    have w2 : IntKind.i64.wrap (xs[2 * q + 1] - y) = xs[2 * q + 1] - y := IntWalk.i64_in _ (by omega)
    have e0 : (2 * (q : Int)).toNat = 2 * q := by omega
    have e1 : (2 * (q : Int) + 1).toNat = 2 * q + 1 := by omega
    have t1 : gz (xs.take m) (2 * q) = xs[2 * q] := by rw [gz_eq (by simp; omega)]; simp
    have t2 : gz (xs.take m) (2 * q + 1) = xs[2 * q + 1] := by rw [gz_eq (by simp; omega)]; simp
    have hr := fun b' m' => ih (i + 1) n b' m' (by omega) (by omega)
    rw [List.drop_eq_getElem_cons h1]
    simp only [t1, t2, Int.toNat_natCast, gz_eq h1, hq1, c1, c2, gz_eq l1, gz_eq l2, w1, w2, wrap_nat i (by omega), h4, h5, h1, d1, d2, d3, d4, l1, l2, Nat.zero_add, Nat.add_zero, Nat.mul_one, decide_true, Bool.and_self, Bool.or_self, Bool.and_true, Bool.true_and, cond_true, point.great, e0, e1]
    generalize point.gmul.sv (xs[2 * q] - x) (xs[2 * q + 1] - y) = gg
    cases decide (best < 0)
    · simp only [cond_false, Bool.false_or]
      cases decide (most < gg)
      · exact hr _ _
      · exact hr _ _
    · exact hr _ _
theorem run : ∀ args v new, R args = some (true, v, new) → ∃ fuel, runFn Try.prog (orc [⟨88, better.R⟩, ⟨75, productPoint_1.R⟩]) hd Dr.std (some 0) fuel (bodyOf Try.f73) 60 [8, 9] args [] = some (v, new) := by
  intro args v new h
  unfold R at h
  split at h
  · rename_i xs m x y ff
    simp only [Option.some.injEq, Prod.mk.injEq, Bool.and_eq_true, decide_eq_true_eq] at h
    obtain ⟨⟨⟨h1, h2, rfl⟩, hv⟩, rfl, rfl⟩ := h
    have hlen : (xs.take m).length = m := by simp; omega
    obtain ⟨⟨v1, v2, v3⟩, v4, v5, v6⟩ := point.valid hv
    rw [hlen] at v1 v2 v3
    have hin := point.pick_in x y (xs.take m) 0
    have hpl := point.pick_len x y (xs.take m) 0
    rw [hlen] at hin hpl
    refine ⟨(point.sv (xs.take m) x y).length + 1, ?_⟩
    rw [start]
    have hg := point.great_pick point.gmul.sv (xs.take m) x y (xs.take m) 0 (-1) 0 rfl
    have hl := loop xs m x y (point.sv (xs.take m) x y) ((point.sv (xs.take m) x y).length + 1) h1 (by omega) v4 v5 v6 (fun k hk => by
      obtain ⟨i, a1, a2, a3⟩ := hin k hk
      exact ⟨i, a1, by omega⟩) (by unfold point.sv; omega) (point.sv (xs.take m) x y).length 0 ((point.sv (xs.take m) x y).length + 1) (-1) 0 (by omega) (by omega)
    simp only [h1, h2, hv, and_self, decide_true, Bool.and_self, Bool.or_self, Bool.true_and, Bool.and_true, Bool.or_true, cond_true, point.sq, point.prod.sw, point.best]
    rw [List.drop_zero] at hl
    have hl2 := hl.trans (congrArg (fun z => some (AVal.tup [.int .i64 z, .bool true], ([] : List Blk))) hg)
    by_cases hp : 0 < (point.sv (xs.take m) x y).length
    · simp only [hp, decide_true, Bool.not_true, cond_false, cond_true]
      exact hl2
    · simp only [hp, decide_false, Bool.not_false, cond_true, cond_false]
  · cases h
theorem ok : EntOk Try.prog ⟨73, R⟩ :=
  ent_okA mixed (A := (orc [⟨88, better.R⟩, ⟨75, productPoint_1.R⟩])) (orc_ok (by simp only [List.mem_cons, List.not_mem_nil, or_false, forall_eq_or_imp, forall_eq]; exact ⟨better.ok, productPoint_1.ok⟩)) Try.func73 (by kernel_rfl) (by kernel_rfl) (n := 60) (ts := [8, 9]) (hd := hd) (dr := Dr.std) (cut := (some 0)) (by kernel_rfl) (by kernel_rfl) (by kernel_rfl) run
end greatProductPoint

namespace greatLeastPointF
def R : List AVal → Option (Bool × AVal × List Blk)
  | [.ro (.ints .i64 xs) m 1, .int .i64 x, .int .i64 y, .fn ff []] => some (decide (m ≤ xs.length ∧ m ≤ 4611686018427387904 ∧ ff = 74) && !point.sp (xs.take m) x y, .tup [.int .i64 (point.least.sw (xs.take m) x y), .bool (point.sq (xs.take m) x y)], [])
  | _ => none
theorem go (xs : List Int) (m : Nat) (x y : Int) :
  runFn Try.prog (orc [⟨88, betterF.R⟩]) hd0 Dr.std (some 0) 0 (bodyOf Try.f73) 60 [8, 9] [.ro (.ints .i64 xs) m 1, .int .i64 x, .int .i64 y, .fn 74 []] []
  = (bif decide (m ≤ xs.length ∧ m ≤ (4611686018427387904 : Nat)) && !point.sp (List.take m xs) x y && (true && (true && (true && true)) || true && true) then some (AVal.tup [AVal.int IntKind.i64 (0 : Int), AVal.bool false], []) else none) := by kernel_rfl
theorem run : ∀ args v new, R args = some (true, v, new) → ∃ fuel, runFn Try.prog (orc [⟨88, betterF.R⟩]) hd0 Dr.std (some 0) fuel (bodyOf Try.f73) 60 [8, 9] args [] = some (v, new) := by
  intro args v new h
  unfold R at h
  split at h
  · rename_i xs m x y ff
    simp only [Option.some.injEq, Prod.mk.injEq, Bool.and_eq_true, decide_eq_true_eq, Bool.not_eq_true'] at h
    obtain ⟨⟨⟨h1, h2, rfl⟩, hv⟩, rfl, rfl⟩ := h
    refine ⟨0, ?_⟩
    rw [go]
    simp only [h1, h2, hv, and_self, decide_true, Bool.and_self, Bool.or_self, Bool.and_true, Bool.or_true, Bool.true_and, Bool.not_false, cond_true, cond_false, point.sq, point.least.sw, point.best, Bool.false_and]
  · cases h
theorem ok : EntOk Try.prog ⟨73, R⟩ :=
  ent_okA mixed (A := (orc [⟨88, betterF.R⟩])) (orc_ok (by simp only [List.mem_cons, List.not_mem_nil, or_false, forall_eq_or_imp, forall_eq]; exact betterF.ok)) Try.func73 (by kernel_rfl) (by kernel_rfl) (n := 60) (ts := [8, 9]) (hd := hd0) (dr := Dr.std) (cut := (some 0)) (by kernel_rfl) (by kernel_rfl) (by kernel_rfl) run
end greatLeastPointF

namespace iLeastPoint
def R : List AVal → Option (Bool × AVal × List Blk)
  | [.ro (.ints .i64 xs) m 1, .int .i64 x, .int .i64 y] => some (decide (m ≤ xs.length ∧ m ≤ 4611686018427387904) && point.sp (xs.take m) x y, .tup [.int .i64 (point.least.sw (xs.take m) x y), .bool (point.sq (xs.take m) x y)], [])
  | _ => none
theorem go (xs : List Int) (m : Nat) (x y : Int) :
  runFn Try.prog (orc [⟨73, greatLeastPoint.R⟩]) hd0 Dr.std none 0 (bodyOf Try.f39) 14 [6, 7] [.ro (.ints .i64 xs) m 1, .int .i64 x, .int .i64 y] []
  = (bif decide (m ≤ xs.length ∧ m ≤ (4611686018427387904 : Nat) ∧ (74 : Nat) = (74 : FuncId)) && point.sp (List.take m xs) x y && (true && (true && (true && true)) || true && (true && true) && true) then some (AVal.tup [AVal.int IntKind.i64 (point.least.sw (List.take m xs) x y), AVal.bool (point.sq (List.take m xs) x y)], []) else none) := by kernel_rfl
theorem run : ∀ args v new, R args = some (true, v, new) → ∃ fuel, runFn Try.prog (orc [⟨73, greatLeastPoint.R⟩]) hd0 Dr.std none fuel (bodyOf Try.f39) 14 [6, 7] args [] = some (v, new) := by
  intro args v new h
  unfold R at h
  split at h
  · rename_i xs m x y
    simp only [Option.some.injEq, Prod.mk.injEq, Bool.and_eq_true, decide_eq_true_eq] at h
    obtain ⟨⟨⟨h1, h2⟩, hv⟩, rfl, rfl⟩ := h
    refine ⟨0, ?_⟩
    rw [go]
    simp only [h1, h2, hv, true_and, and_true, and_self, decide_true, Bool.and_self, Bool.or_self, Bool.and_true, Bool.or_true, Bool.true_and, Bool.not_false, cond_true]
  · cases h
theorem ok : EntOk Try.prog ⟨39, R⟩ :=
  ent_okA mixed (A := (orc [⟨73, greatLeastPoint.R⟩])) (orc_ok (by simp only [List.mem_cons, List.not_mem_nil, or_false, forall_eq_or_imp, forall_eq]; exact greatLeastPoint.ok)) Try.func39 (by kernel_rfl) (by kernel_rfl) (n := 14) (ts := [6, 7]) (hd := hd0) (dr := Dr.std) (cut := none) (by kernel_rfl) (by kernel_rfl) (by kernel_rfl) run
end iLeastPoint

namespace iLeastPointF
def R : List AVal → Option (Bool × AVal × List Blk)
  | [.ro (.ints .i64 xs) m 1, .int .i64 x, .int .i64 y] => some (decide (m ≤ xs.length ∧ m ≤ 4611686018427387904) && !point.sp (xs.take m) x y, .tup [.int .i64 (point.least.sw (xs.take m) x y), .bool (point.sq (xs.take m) x y)], [])
  | _ => none
theorem go (xs : List Int) (m : Nat) (x y : Int) :
  runFn Try.prog (orc [⟨73, greatLeastPointF.R⟩]) hd0 Dr.std none 0 (bodyOf Try.f39) 14 [6, 7] [.ro (.ints .i64 xs) m 1, .int .i64 x, .int .i64 y] []
  = (bif decide (m ≤ xs.length ∧ m ≤ (4611686018427387904 : Nat) ∧ (74 : Nat) = (74 : FuncId)) && !point.sp (List.take m xs) x y && (true && (true && (true && true)) || true && (true && true) && true) then some (AVal.tup [AVal.int IntKind.i64 (point.least.sw (List.take m xs) x y), AVal.bool (point.sq (List.take m xs) x y)], []) else none) := by kernel_rfl
theorem run : ∀ args v new, R args = some (true, v, new) → ∃ fuel, runFn Try.prog (orc [⟨73, greatLeastPointF.R⟩]) hd0 Dr.std none fuel (bodyOf Try.f39) 14 [6, 7] args [] = some (v, new) := by
  intro args v new h
  unfold R at h
  split at h
  · rename_i xs m x y
    simp only [Option.some.injEq, Prod.mk.injEq, Bool.and_eq_true, decide_eq_true_eq, Bool.not_eq_true'] at h
    obtain ⟨⟨⟨h1, h2⟩, hv⟩, rfl, rfl⟩ := h
    refine ⟨0, ?_⟩
    rw [go]
    simp only [h1, h2, hv, true_and, and_true, and_self, decide_true, Bool.and_self, Bool.or_self, Bool.and_true, Bool.or_true, Bool.true_and, Bool.not_false, cond_true]
  · cases h
theorem ok : EntOk Try.prog ⟨39, R⟩ :=
  ent_okA mixed (A := (orc [⟨73, greatLeastPointF.R⟩])) (orc_ok (by simp only [List.mem_cons, List.not_mem_nil, or_false, forall_eq_or_imp, forall_eq]; exact greatLeastPointF.ok)) Try.func39 (by kernel_rfl) (by kernel_rfl) (n := 14) (ts := [6, 7]) (hd := hd0) (dr := Dr.std) (cut := none) (by kernel_rfl) (by kernel_rfl) (by kernel_rfl) run
end iLeastPointF

namespace iLeastPointA
def R : List AVal → Option (Bool × AVal × List Blk)
  | [.ro (.ints .i64 xs) m 1, .int .i64 x, .int .i64 y] => some (decide (m ≤ xs.length ∧ m ≤ 4611686018427387904), .tup [.int .i64 (point.least.sw (xs.take m) x y), .bool (point.sq (xs.take m) x y)], [])
  | _ => none
theorem ok : EntOk Try.prog ⟨39, R⟩ := EntOk.cases iLeastPoint.ok iLeastPointF.ok fun args v new h => by
  unfold R at h
  split at h
  · rename_i xs m x y
    simp only [Option.some.injEq, Prod.mk.injEq, decide_eq_true_eq] at h
    obtain ⟨⟨h1, h2⟩, rfl, rfl⟩ := h
    cases hv : point.sp (xs.take m) x y
    · right; simp [iLeastPointF.R, h1, h2, hv]
    · left; simp [iLeastPoint.R, h1, h2, hv]
  · cases h
end iLeastPointA

namespace sLeastPoint
def R : List AVal → Option (Bool × AVal × List Blk)
  | [.ro (.ints .i64 xs) m 1, .int .i64 x, .int .i64 y] => some (decide (m ≤ xs.length ∧ m ≤ 4611686018427387904), .tup [.int .i64 (point.least.sw (xs.take m) x y), .bool (point.sq (xs.take m) x y)], [])
  | _ => none
theorem go (xs : List Int) (m : Nat) (x y : Int) :
  runFn Try.prog (orc [⟨71, l07Bargain.R⟩, ⟨72, l07BestT.R⟩]) hd0 Dr.std none 0 (bodyOf Try.f38) 21 [6, 7] [.ro (.ints .i64 xs) m 1, .int .i64 x, .int .i64 y] []
  = (bif decide (m ≤ xs.length ∧ m ≤ (4611686018427387904 : Nat)) && (true && (true && (true && true)) || true && true) then bif !point.sp (List.take m xs) x y then some (AVal.tup [AVal.int IntKind.i64 (0 : Int), AVal.bool false], []) else bif decide (m ≤ xs.length ∧ m ≤ (4611686018427387904 : Nat)) && point.sp (List.take m xs) x y && (true && (true && (true && true)) || true && true) then bif decide (point.scan point.gmin.sv x y (List.take m xs) (0 : Int) (-1 : Int) (0 : Int) < (0 : Int)) then some (AVal.tup [AVal.int IntKind.i64 (0 : Int), AVal.bool false], []) else some (AVal.tup [AVal.int IntKind.i64 (point.scan point.gmin.sv x y (List.take m xs) (0 : Int) (-1 : Int) (0 : Int)), AVal.bool true], []) else none else none) := by kernel_rfl
theorem run : ∀ args v new, R args = some (true, v, new) → ∃ fuel, runFn Try.prog (orc [⟨71, l07Bargain.R⟩, ⟨72, l07BestT.R⟩]) hd0 Dr.std none fuel (bodyOf Try.f38) 21 [6, 7] args [] = some (v, new) := by
  intro args v new h
  unfold R at h
  split at h
  · rename_i xs m x y
    simp only [Option.some.injEq, Prod.mk.injEq, decide_eq_true_eq] at h
    obtain ⟨⟨h1, h2⟩, rfl, rfl⟩ := h
    refine ⟨0, ?_⟩
    rw [go]
    simp only [h1, h2, and_self, decide_true, Bool.and_self, Bool.or_self, Bool.and_true, Bool.or_true, Bool.true_and, cond_true, point.least.sw, point.best, point.sq]
    cases hv : point.sp (xs.take m) x y
    · rfl
    obtain ⟨n1, n2, n3⟩ := point.scan_neg point.gmin.sv x y (xs.take m) 0 (-1) 0
    have z : ((0 : Nat) : Int) = 0 := rfl
    rw [z] at n2 n3
    simp only [Bool.not_true, cond_false, cond_true, Bool.true_and]
    by_cases hp : point.pick x y (xs.take m) 0 = []
    · have : (point.sv (xs.take m) x y).length = 0 := by unfold point.sv; rw [hp]; rfl
      rw [this, n3 hp]
      rfl
    · have hp' : 0 < (point.sv (xs.take m) x y).length := by unfold point.sv; exact List.length_pos_iff.2 hp
      have n4 := n2 (by decide) hp
      have c : ¬ point.scan point.gmin.sv x y (xs.take m) 0 (-1) 0 < 0 := by omega
      simp only [hp', c, decide_true, decide_false, cond_true, cond_false]
  · cases h
theorem ok : EntOk Try.prog ⟨38, R⟩ :=
  ent_okA mixed (A := (orc [⟨71, l07Bargain.R⟩, ⟨72, l07BestT.R⟩])) (orc_ok (by simp only [List.mem_cons, List.not_mem_nil, or_false, forall_eq_or_imp, forall_eq]; exact ⟨l07Bargain.ok, l07BestT.ok⟩)) Try.func38 (by kernel_rfl) (by kernel_rfl) (n := 21) (ts := [6, 7]) (hd := hd0) (dr := Dr.std) (cut := none) (by kernel_rfl) (by kernel_rfl) (by kernel_rfl) run
end sLeastPoint

namespace FnExactLeastPoint
def R : List AVal → Option (Bool × AVal × List Blk)
  | [.ro (.ints .i64 xs) m 1, .int .i64 x, .int .i64 y] => some (decide (m ≤ xs.length), .bool true, [])
  | _ => none
theorem go (xs : List Int) (m : Nat) (x y : Int) :
  runFn Try.prog (orc [⟨15, toInt64S.R⟩, ⟨38, sLeastPoint.R⟩, ⟨39, iLeastPointA.R⟩, ⟨17, eqInt64S.R⟩]) hd0 Dr.std (some 0) 0 (bodyOf Try.f10) 45 [6] [.ro (.ints .i64 xs) m 1, .int .i64 x, .int .i64 y] []
  = (bif decide ((1048576 : Int) < (↑m : Int)) then some (AVal.bool true, []) else bif decide (m ≤ xs.length ∧ m ≤ (1048576 : Nat)) && (true && true || true && (true && true)) then bif decide (m ≤ (List.take m xs).length ∧ m ≤ (4611686018427387904 : Nat)) && (false && (true && (true && true)) || true && (true && true) && true) then bif decide (m ≤ xs.length ∧ m ≤ (1048576 : Nat)) && (true && true || true && (true && true)) then bif decide (m ≤ (List.take m xs).length ∧ m ≤ (4611686018427387904 : Nat)) && (false && (true && (true && true)) || true && (true && true) && true) then bif point.least.sw (List.take m (List.take m xs)) x y != point.least.sw (List.take m (List.take m xs)) x y then some (AVal.bool false, []) else bif !point.sq (List.take m (List.take m xs)) x y == point.sq (List.take m (List.take m xs)) x y then some (AVal.bool false, []) else bif decide (m ≤ xs.length ∧ m ≤ (1048576 : Nat)) && (true && true || true && (true && true)) then bif decide (m ≤ (List.take m xs).length ∧ m ≤ (List.take m xs).length ∧ m ≤ (4611686018427387904 : Nat)) && (false && (false && true) || true && true) then bif !decide (List.take m (List.take m xs) = List.take m (List.take m xs)) then some (AVal.bool false, []) else some (AVal.bool true, []) else none else none else none else none else none else none) := by kernel_rfl
theorem run : ∀ args v new, R args = some (true, v, new) → ∃ fuel, runFn Try.prog (orc [⟨15, toInt64S.R⟩, ⟨38, sLeastPoint.R⟩, ⟨39, iLeastPointA.R⟩, ⟨17, eqInt64S.R⟩]) hd0 Dr.std (some 0) fuel (bodyOf Try.f10) 45 [6] args [] = some (v, new) := by
  intro args v new h
  unfold R at h
  split at h
  · rename_i xs m x y
    simp only [Option.some.injEq, Prod.mk.injEq, decide_eq_true_eq] at h
    obtain ⟨h1, rfl, rfl⟩ := h
    refine ⟨0, ?_⟩
    rw [go]
    by_cases b0 : (1048576 : Int) < (m : Int)
    · simp only [b0, decide_true, cond_true]
    have g1 : m ≤ 1048576 := by omega
    have g2 : m ≤ 4611686018427387904 := by omega
    have e1 : (xs.take m).length = m := by simp; omega
    simp only [b0, g1, g2, e1, h1, List.take_take, Nat.min_self, Nat.le_refl, List.take_length, marks_length, take_marks, one_neg, i0_1, i1_b, true_and, and_true, and_self, decide_true, decide_false, Bool.and_self, Bool.or_self, Bool.and_true, Bool.true_and, Bool.and_false, Bool.false_and, Bool.or_true, Bool.true_or, Bool.or_false, Bool.false_or, Bool.not_true, Bool.not_false, cond_true, cond_false, bne_self_eq_false, beq_self_eq_true]
  · cases h
theorem ok : EntOk Try.prog ⟨10, R⟩ :=
  ent_okA mixed (A := (orc [⟨15, toInt64S.R⟩, ⟨38, sLeastPoint.R⟩, ⟨39, iLeastPointA.R⟩, ⟨17, eqInt64S.R⟩])) (orc_ok (by simp only [List.mem_cons, List.not_mem_nil, or_false, forall_eq_or_imp, forall_eq]; exact ⟨toInt64S.ok, sLeastPoint.ok, iLeastPointA.ok, eqInt64S.ok⟩)) Try.func10 (by kernel_rfl) (by kernel_rfl) (n := 45) (ts := [6]) (hd := hd0) (dr := Dr.std) (cut := (some 0)) (by kernel_rfl) (by kernel_rfl) (by kernel_rfl) run
end FnExactLeastPoint

namespace greatProductPointF
def R : List AVal → Option (Bool × AVal × List Blk)
  | [.ro (.ints .i64 xs) m 1, .int .i64 x, .int .i64 y, .fn ff []] => some (decide (m ≤ xs.length ∧ m ≤ 4611686018427387904 ∧ ff = 75) && !point.sp (xs.take m) x y, .tup [.int .i64 (point.prod.sw (xs.take m) x y), .bool (point.sq (xs.take m) x y)], [])
  | _ => none
theorem go (xs : List Int) (m : Nat) (x y : Int) :
  runFn Try.prog (orc [⟨88, betterF.R⟩]) hd0 Dr.std (some 0) 0 (bodyOf Try.f73) 60 [8, 9] [.ro (.ints .i64 xs) m 1, .int .i64 x, .int .i64 y, .fn 75 []] []
  = (bif decide (m ≤ xs.length ∧ m ≤ (4611686018427387904 : Nat)) && !point.sp (List.take m xs) x y && (true && (true && (true && true)) || true && true) then some (AVal.tup [AVal.int IntKind.i64 (0 : Int), AVal.bool false], []) else none) := by kernel_rfl
theorem run : ∀ args v new, R args = some (true, v, new) → ∃ fuel, runFn Try.prog (orc [⟨88, betterF.R⟩]) hd0 Dr.std (some 0) fuel (bodyOf Try.f73) 60 [8, 9] args [] = some (v, new) := by
  intro args v new h
  unfold R at h
  split at h
  · rename_i xs m x y ff
    simp only [Option.some.injEq, Prod.mk.injEq, Bool.and_eq_true, decide_eq_true_eq, Bool.not_eq_true'] at h
    obtain ⟨⟨⟨h1, h2, rfl⟩, hv⟩, rfl, rfl⟩ := h
    refine ⟨0, ?_⟩
    rw [go]
    simp only [h1, h2, hv, and_self, decide_true, Bool.and_self, Bool.or_self, Bool.and_true, Bool.or_true, Bool.true_and, Bool.not_false, cond_true, cond_false, point.sq, point.prod.sw, point.best, Bool.false_and]
  · cases h
theorem ok : EntOk Try.prog ⟨73, R⟩ :=
  ent_okA mixed (A := (orc [⟨88, betterF.R⟩])) (orc_ok (by simp only [List.mem_cons, List.not_mem_nil, or_false, forall_eq_or_imp, forall_eq]; exact betterF.ok)) Try.func73 (by kernel_rfl) (by kernel_rfl) (n := 60) (ts := [8, 9]) (hd := hd0) (dr := Dr.std) (cut := (some 0)) (by kernel_rfl) (by kernel_rfl) (by kernel_rfl) run
end greatProductPointF

namespace iProductPoint
def R : List AVal → Option (Bool × AVal × List Blk)
  | [.ro (.ints .i64 xs) m 1, .int .i64 x, .int .i64 y] => some (decide (m ≤ xs.length ∧ m ≤ 4611686018427387904) && point.sp (xs.take m) x y, .tup [.int .i64 (point.prod.sw (xs.take m) x y), .bool (point.sq (xs.take m) x y)], [])
  | _ => none
theorem go (xs : List Int) (m : Nat) (x y : Int) :
  runFn Try.prog (orc [⟨73, greatProductPoint.R⟩]) hd0 Dr.std none 0 (bodyOf Try.f41) 14 [6, 7] [.ro (.ints .i64 xs) m 1, .int .i64 x, .int .i64 y] []
  = (bif decide (m ≤ xs.length ∧ m ≤ (4611686018427387904 : Nat) ∧ (75 : Nat) = (75 : FuncId)) && point.sp (List.take m xs) x y && (true && (true && (true && true)) || true && (true && true) && true) then some (AVal.tup [AVal.int IntKind.i64 (point.prod.sw (List.take m xs) x y), AVal.bool (point.sq (List.take m xs) x y)], []) else none) := by kernel_rfl
theorem run : ∀ args v new, R args = some (true, v, new) → ∃ fuel, runFn Try.prog (orc [⟨73, greatProductPoint.R⟩]) hd0 Dr.std none fuel (bodyOf Try.f41) 14 [6, 7] args [] = some (v, new) := by
  intro args v new h
  unfold R at h
  split at h
  · rename_i xs m x y
    simp only [Option.some.injEq, Prod.mk.injEq, Bool.and_eq_true, decide_eq_true_eq] at h
    obtain ⟨⟨⟨h1, h2⟩, hv⟩, rfl, rfl⟩ := h
    refine ⟨0, ?_⟩
    rw [go]
    simp only [h1, h2, hv, true_and, and_true, and_self, decide_true, Bool.and_self, Bool.or_self, Bool.and_true, Bool.or_true, Bool.true_and, Bool.not_false, cond_true]
  · cases h
theorem ok : EntOk Try.prog ⟨41, R⟩ :=
  ent_okA mixed (A := (orc [⟨73, greatProductPoint.R⟩])) (orc_ok (by simp only [List.mem_cons, List.not_mem_nil, or_false, forall_eq_or_imp, forall_eq]; exact greatProductPoint.ok)) Try.func41 (by kernel_rfl) (by kernel_rfl) (n := 14) (ts := [6, 7]) (hd := hd0) (dr := Dr.std) (cut := none) (by kernel_rfl) (by kernel_rfl) (by kernel_rfl) run
end iProductPoint

namespace iProductPointF
def R : List AVal → Option (Bool × AVal × List Blk)
  | [.ro (.ints .i64 xs) m 1, .int .i64 x, .int .i64 y] => some (decide (m ≤ xs.length ∧ m ≤ 4611686018427387904) && !point.sp (xs.take m) x y, .tup [.int .i64 (point.prod.sw (xs.take m) x y), .bool (point.sq (xs.take m) x y)], [])
  | _ => none
theorem go (xs : List Int) (m : Nat) (x y : Int) :
  runFn Try.prog (orc [⟨73, greatProductPointF.R⟩]) hd0 Dr.std none 0 (bodyOf Try.f41) 14 [6, 7] [.ro (.ints .i64 xs) m 1, .int .i64 x, .int .i64 y] []
  = (bif decide (m ≤ xs.length ∧ m ≤ (4611686018427387904 : Nat) ∧ (75 : Nat) = (75 : FuncId)) && !point.sp (List.take m xs) x y && (true && (true && (true && true)) || true && (true && true) && true) then some (AVal.tup [AVal.int IntKind.i64 (point.prod.sw (List.take m xs) x y), AVal.bool (point.sq (List.take m xs) x y)], []) else none) := by kernel_rfl
theorem run : ∀ args v new, R args = some (true, v, new) → ∃ fuel, runFn Try.prog (orc [⟨73, greatProductPointF.R⟩]) hd0 Dr.std none fuel (bodyOf Try.f41) 14 [6, 7] args [] = some (v, new) := by
  intro args v new h
  unfold R at h
  split at h
  · rename_i xs m x y
    simp only [Option.some.injEq, Prod.mk.injEq, Bool.and_eq_true, decide_eq_true_eq, Bool.not_eq_true'] at h
    obtain ⟨⟨⟨h1, h2⟩, hv⟩, rfl, rfl⟩ := h
    refine ⟨0, ?_⟩
    rw [go]
    simp only [h1, h2, hv, true_and, and_true, and_self, decide_true, Bool.and_self, Bool.or_self, Bool.and_true, Bool.or_true, Bool.true_and, Bool.not_false, cond_true]
  · cases h
theorem ok : EntOk Try.prog ⟨41, R⟩ :=
  ent_okA mixed (A := (orc [⟨73, greatProductPointF.R⟩])) (orc_ok (by simp only [List.mem_cons, List.not_mem_nil, or_false, forall_eq_or_imp, forall_eq]; exact greatProductPointF.ok)) Try.func41 (by kernel_rfl) (by kernel_rfl) (n := 14) (ts := [6, 7]) (hd := hd0) (dr := Dr.std) (cut := none) (by kernel_rfl) (by kernel_rfl) (by kernel_rfl) run
end iProductPointF

namespace iProductPointA
def R : List AVal → Option (Bool × AVal × List Blk)
  | [.ro (.ints .i64 xs) m 1, .int .i64 x, .int .i64 y] => some (decide (m ≤ xs.length ∧ m ≤ 4611686018427387904), .tup [.int .i64 (point.prod.sw (xs.take m) x y), .bool (point.sq (xs.take m) x y)], [])
  | _ => none
theorem ok : EntOk Try.prog ⟨41, R⟩ := EntOk.cases iProductPoint.ok iProductPointF.ok fun args v new h => by
  unfold R at h
  split at h
  · rename_i xs m x y
    simp only [Option.some.injEq, Prod.mk.injEq, decide_eq_true_eq] at h
    obtain ⟨⟨h1, h2⟩, rfl, rfl⟩ := h
    cases hv : point.sp (xs.take m) x y
    · right; simp [iProductPointF.R, h1, h2, hv]
    · left; simp [iProductPoint.R, h1, h2, hv]
  · cases h
end iProductPointA

namespace sProductPoint
def R : List AVal → Option (Bool × AVal × List Blk)
  | [.ro (.ints .i64 xs) m 1, .int .i64 x, .int .i64 y] => some (decide (m ≤ xs.length ∧ m ≤ 4611686018427387904), .tup [.int .i64 (point.prod.sw (xs.take m) x y), .bool (point.sq (xs.take m) x y)], [])
  | _ => none
theorem go (xs : List Int) (m : Nat) (x y : Int) :
  runFn Try.prog (orc [⟨71, l07Bargain.R⟩, ⟨72, l07BestF.R⟩]) hd0 Dr.std none 0 (bodyOf Try.f40) 21 [6, 7] [.ro (.ints .i64 xs) m 1, .int .i64 x, .int .i64 y] []
  = (bif decide (m ≤ xs.length ∧ m ≤ (4611686018427387904 : Nat)) && (true && (true && (true && true)) || true && true) then bif !point.sp (List.take m xs) x y then some (AVal.tup [AVal.int IntKind.i64 (0 : Int), AVal.bool false], []) else bif decide (m ≤ xs.length ∧ m ≤ (4611686018427387904 : Nat)) && point.sp (List.take m xs) x y && (true && (true && (true && true)) || true && true) then bif decide (point.scan point.gmul.sv x y (List.take m xs) (0 : Int) (-1 : Int) (0 : Int) < (0 : Int)) then some (AVal.tup [AVal.int IntKind.i64 (0 : Int), AVal.bool false], []) else some (AVal.tup [AVal.int IntKind.i64 (point.scan point.gmul.sv x y (List.take m xs) (0 : Int) (-1 : Int) (0 : Int)), AVal.bool true], []) else none else none) := by kernel_rfl
theorem run : ∀ args v new, R args = some (true, v, new) → ∃ fuel, runFn Try.prog (orc [⟨71, l07Bargain.R⟩, ⟨72, l07BestF.R⟩]) hd0 Dr.std none fuel (bodyOf Try.f40) 21 [6, 7] args [] = some (v, new) := by
  intro args v new h
  unfold R at h
  split at h
  · rename_i xs m x y
    simp only [Option.some.injEq, Prod.mk.injEq, decide_eq_true_eq] at h
    obtain ⟨⟨h1, h2⟩, rfl, rfl⟩ := h
    refine ⟨0, ?_⟩
    rw [go]
    simp only [h1, h2, and_self, decide_true, Bool.and_self, Bool.or_self, Bool.and_true, Bool.or_true, Bool.true_and, cond_true, point.prod.sw, point.best, point.sq]
    cases hv : point.sp (xs.take m) x y
    · rfl
    obtain ⟨n1, n2, n3⟩ := point.scan_neg point.gmul.sv x y (xs.take m) 0 (-1) 0
    have z : ((0 : Nat) : Int) = 0 := rfl
    rw [z] at n2 n3
    simp only [Bool.not_true, cond_false, cond_true, Bool.true_and]
    by_cases hp : point.pick x y (xs.take m) 0 = []
    · have : (point.sv (xs.take m) x y).length = 0 := by unfold point.sv; rw [hp]; rfl
      rw [this, n3 hp]
      rfl
    · have hp' : 0 < (point.sv (xs.take m) x y).length := by unfold point.sv; exact List.length_pos_iff.2 hp
      have n4 := n2 (by decide) hp
      have c : ¬ point.scan point.gmul.sv x y (xs.take m) 0 (-1) 0 < 0 := by omega
      simp only [hp', c, decide_true, decide_false, cond_true, cond_false]
  · cases h
theorem ok : EntOk Try.prog ⟨40, R⟩ :=
  ent_okA mixed (A := (orc [⟨71, l07Bargain.R⟩, ⟨72, l07BestF.R⟩])) (orc_ok (by simp only [List.mem_cons, List.not_mem_nil, or_false, forall_eq_or_imp, forall_eq]; exact ⟨l07Bargain.ok, l07BestF.ok⟩)) Try.func40 (by kernel_rfl) (by kernel_rfl) (n := 21) (ts := [6, 7]) (hd := hd0) (dr := Dr.std) (cut := none) (by kernel_rfl) (by kernel_rfl) (by kernel_rfl) run
end sProductPoint

namespace FnExactProductPoint
def R : List AVal → Option (Bool × AVal × List Blk)
  | [.ro (.ints .i64 xs) m 1, .int .i64 x, .int .i64 y] => some (decide (m ≤ xs.length), .bool true, [])
  | _ => none
theorem go (xs : List Int) (m : Nat) (x y : Int) :
  runFn Try.prog (orc [⟨15, toInt64S.R⟩, ⟨40, sProductPoint.R⟩, ⟨41, iProductPointA.R⟩, ⟨17, eqInt64S.R⟩]) hd0 Dr.std (some 0) 0 (bodyOf Try.f11) 45 [6] [.ro (.ints .i64 xs) m 1, .int .i64 x, .int .i64 y] []
  = (bif decide ((1048576 : Int) < (↑m : Int)) then some (AVal.bool true, []) else bif decide (m ≤ xs.length ∧ m ≤ (1048576 : Nat)) && (true && true || true && (true && true)) then bif decide (m ≤ (List.take m xs).length ∧ m ≤ (4611686018427387904 : Nat)) && (false && (true && (true && true)) || true && (true && true) && true) then bif decide (m ≤ xs.length ∧ m ≤ (1048576 : Nat)) && (true && true || true && (true && true)) then bif decide (m ≤ (List.take m xs).length ∧ m ≤ (4611686018427387904 : Nat)) && (false && (true && (true && true)) || true && (true && true) && true) then bif point.prod.sw (List.take m (List.take m xs)) x y != point.prod.sw (List.take m (List.take m xs)) x y then some (AVal.bool false, []) else bif !point.sq (List.take m (List.take m xs)) x y == point.sq (List.take m (List.take m xs)) x y then some (AVal.bool false, []) else bif decide (m ≤ xs.length ∧ m ≤ (1048576 : Nat)) && (true && true || true && (true && true)) then bif decide (m ≤ (List.take m xs).length ∧ m ≤ (List.take m xs).length ∧ m ≤ (4611686018427387904 : Nat)) && (false && (false && true) || true && true) then bif !decide (List.take m (List.take m xs) = List.take m (List.take m xs)) then some (AVal.bool false, []) else some (AVal.bool true, []) else none else none else none else none else none else none) := by kernel_rfl
theorem run : ∀ args v new, R args = some (true, v, new) → ∃ fuel, runFn Try.prog (orc [⟨15, toInt64S.R⟩, ⟨40, sProductPoint.R⟩, ⟨41, iProductPointA.R⟩, ⟨17, eqInt64S.R⟩]) hd0 Dr.std (some 0) fuel (bodyOf Try.f11) 45 [6] args [] = some (v, new) := by
  intro args v new h
  unfold R at h
  split at h
  · rename_i xs m x y
    simp only [Option.some.injEq, Prod.mk.injEq, decide_eq_true_eq] at h
    obtain ⟨h1, rfl, rfl⟩ := h
    refine ⟨0, ?_⟩
    rw [go]
    by_cases b0 : (1048576 : Int) < (m : Int)
    · simp only [b0, decide_true, cond_true]
    have g1 : m ≤ 1048576 := by omega
    have g2 : m ≤ 4611686018427387904 := by omega
    have e1 : (xs.take m).length = m := by simp; omega
    simp only [b0, g1, g2, e1, h1, List.take_take, Nat.min_self, Nat.le_refl, List.take_length, marks_length, take_marks, one_neg, i0_1, i1_b, true_and, and_true, and_self, decide_true, decide_false, Bool.and_self, Bool.or_self, Bool.and_true, Bool.true_and, Bool.and_false, Bool.false_and, Bool.or_true, Bool.true_or, Bool.or_false, Bool.false_or, Bool.not_true, Bool.not_false, cond_true, cond_false, bne_self_eq_false, beq_self_eq_true]
  · cases h
theorem ok : EntOk Try.prog ⟨11, R⟩ :=
  ent_okA mixed (A := (orc [⟨15, toInt64S.R⟩, ⟨40, sProductPoint.R⟩, ⟨41, iProductPointA.R⟩, ⟨17, eqInt64S.R⟩])) (orc_ok (by simp only [List.mem_cons, List.not_mem_nil, or_false, forall_eq_or_imp, forall_eq]; exact ⟨toInt64S.ok, sProductPoint.ok, iProductPointA.ok, eqInt64S.ok⟩)) Try.func11 (by kernel_rfl) (by kernel_rfl) (n := 45) (ts := [6]) (hd := hd0) (dr := Dr.std) (cut := (some 0)) (by kernel_rfl) (by kernel_rfl) (by kernel_rfl) run
end FnExactProductPoint

end Go.Proofs.Ytmaegbgkpjbohaa.Ab
