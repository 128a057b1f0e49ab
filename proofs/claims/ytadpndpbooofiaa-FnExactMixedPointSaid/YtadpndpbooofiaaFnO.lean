/-
  Functions: points that are best, the program.
-/
import Derived.Test.YtadpndpbooofiaaFnN
namespace Go.Proofs.Ytadpndpbooofiaa.Ab
open Go
set_option linter.unusedVariables false
set_option linter.unusedSimpArgs false
set_option maxRecDepth 100000

theorem two_set {α : Type} (z x y : α) : ((List.replicate 2 z).set 0 x).set 1 y = [x, y] := rfl
theorem two_len {α : Type} (x y : α) : [x, y].length = 2 := rfl
theorem two_take {α : Type} (x y : α) : List.take 2 [x, y] = [x, y] := rfl
theorem two_le : ((2 : Nat) ≤ 4611686018427387904) = True := by simp

namespace better
def R : List AVal → Option (Bool × AVal × List Blk)
  | [.ro (.ints .i64 xs) m 1, .int .i64 x, .int .i64 y] => some (decide (m ≤ xs.length ∧ m ≤ 4611686018427387904) && point.sp (xs.take m) x y, .tup [.own 0 0 (point.sv (xs.take m) x y).length 0 1, .bool (decide (0 < (point.sv (xs.take m) x y).length))], [⟨.typ (.ints .i64 (point.sv (xs.take m) x y)), 0⟩])
  | _ => none
def hd : Nat → Head := fun _ => ⟨[0, 1, 2, 8, 23, 24], some 2⟩
noncomputable def L (f n : Nat) (s : State) := loopAt Try.prog (orc [⟨25, iIsBargain.R⟩, ⟨47, areWithin.R⟩]) hd Dr.std 0 f (bodyOf Try.f33) 0 [true, true, true, false, true] (retK Try.prog [6, 7] 0 none) n s
theorem start (xs : List Int) (m : Nat) (x y : Int) (f : Nat) :
  runFn Try.prog (orc [⟨25, iIsBargain.R⟩, ⟨47, areWithin.R⟩]) hd Dr.std none f (bodyOf Try.f33) 53 [6, 7] [.ro (.ints .i64 xs) m 1, .int .i64 x, .int .i64 y] []
  = (bif decide (m ≤ xs.length ∧ m ≤ (4611686018427387904 : Nat)) && (true && true || true && true) then bif !l07Points.sp (List.take m xs) then some (AVal.tup [AVal.nils, AVal.bool false], []) else bif decide ((2 : Nat) ≤ (((List.replicate (2 : Nat) (0 : Int)).set (0 : Nat) x).set (1 : Nat) y).length ∧ (2 : Nat) ≤ (4611686018427387904 : Nat)) && (false && true || true && true) then bif !(List.take (2 : Nat) (((List.replicate (2 : Nat) (0 : Int)).set (0 : Nat) x).set (1 : Nat) y)).all fun x => decide ((0 : Int) ≤ x) && decide (x ≤ (1000 : Int)) then some (AVal.tup [AVal.nils, AVal.bool false], [{ c := BC.typ (Cont.ints IntKind.i64 (((List.replicate (2 : Nat) (0 : Int)).set (0 : Nat) x).set (1 : Nat) y)), ver := (0 : Nat) }]) else L f f (mkS (53 : Nat) [((0 : Nat), AVal.ro (Cont.ints IntKind.i64 xs) m (1 : Nat)), ((1 : Nat), AVal.int IntKind.i64 x), ((2 : Nat), AVal.int IntKind.i64 y), ((8 : Nat), AVal.own (1 : Nat) (0 : Nat) (0 : Nat) (0 : Nat) (1 : Nat)), ((23 : Nat), AVal.int IntKind.i64 (IntKind.i64.wrap ((↑m : Int).tdiv (2 : Int)))), ((24 : Nat), AVal.int IntKind.i64 (0 : Int))] [{ c := BC.typ (Cont.ints IntKind.i64 (((List.replicate (2 : Nat) (0 : Int)).set (0 : Nat) x).set (1 : Nat) y)), ver := (0 : Nat) }, { c := BC.typ (Cont.ints IntKind.i64 (List.replicate (0 : Nat) (0 : Int))), ver := (0 : Nat) }]) else none else none) := by kernel_rfl
theorem round (xs : List Int) (m : Nat) (x y : Int) (zs : List Int) (N : Int) (k i f n : Nat) :
  L f (n + 1) (mkS 53 [(0, .ro (.ints .i64 xs) m 1), (1, .int .i64 x), (2, .int .i64 y), (8, .own 1 0 k 0 1), (23, .int .i64 N), (24, .int .i64 i)] [⟨.typ (.ints .i64 [x, y]), 0⟩, ⟨.typ (.ints .i64 zs), 0⟩])
  = (bif decide ((↑i : Int) < N) then bif true && (decide ((0 : Int) ≤ IntKind.i64.wrap ((2 : Int) * (↑i : Int))) && decide (IntKind.i64.wrap ((2 : Int) * (↑i : Int)) < (↑m : Int))) then bif decide ((IntKind.i64.wrap ((2 : Int) * (↑i : Int))).toNat < xs.length) then bif decide (x ≤ gz xs (IntKind.i64.wrap ((2 : Int) * (↑i : Int))).toNat) then bif true && (decide ((0 : Int) ≤ IntKind.i64.wrap (IntKind.i64.wrap ((2 : Int) * (↑i : Int)) + (1 : Int))) && decide (IntKind.i64.wrap (IntKind.i64.wrap ((2 : Int) * (↑i : Int)) + (1 : Int)) < (↑m : Int))) then bif decide ((IntKind.i64.wrap (IntKind.i64.wrap ((2 : Int) * (↑i : Int)) + (1 : Int))).toNat < xs.length) then bif decide (y ≤ gz xs (IntKind.i64.wrap (IntKind.i64.wrap ((2 : Int) * (↑i : Int)) + (1 : Int))).toNat) then bif (1 : Nat) == (1 : Nat) && (1 : Nat) == (1 : Nat) && (true && (true && true) && (true && true && (decide (k + (List.take (1 : Nat) (List.drop (0 : Nat) ((List.replicate (1 : Nat) (0 : Int)).set (0 : Nat) (↑i : Int)))).length ≤ (4611686018427387904 : Nat)) && decide ((k + (List.take (1 : Nat) (List.drop (0 : Nat) ((List.replicate (1 : Nat) (0 : Int)).set (0 : Nat) (↑i : Int)))).length) * (8 : Nat) ≤ (140737488355328 : Nat))))) then L f n (mkS (53 : Nat) [((0 : Nat), AVal.ro (Cont.ints IntKind.i64 xs) m (1 : Nat)), ((1 : Nat), AVal.int IntKind.i64 x), ((2 : Nat), AVal.int IntKind.i64 y), ((8 : Nat), AVal.own (1 : Nat) (0 : Nat) (k + (List.take (1 : Nat) (List.drop (0 : Nat) ((List.replicate (1 : Nat) (0 : Int)).set (0 : Nat) (↑i : Int)))).length) (0 : Nat) (1 : Nat)), ((23 : Nat), AVal.int IntKind.i64 N), ((24 : Nat), AVal.int IntKind.i64 (IntKind.i64.wrap ((↑i : Int) + (1 : Int))))] [{ c := BC.typ (Cont.ints IntKind.i64 [x, y]), ver := (0 : Nat) }, { c := BC.typ (Cont.ints IntKind.i64 (List.take k zs ++ List.take (1 : Nat) (List.drop (0 : Nat) ((List.replicate (1 : Nat) (0 : Int)).set (0 : Nat) (↑i : Int))))), ver := (0 : Nat) }]) else none else L f n (mkS (53 : Nat) [((0 : Nat), AVal.ro (Cont.ints IntKind.i64 xs) m (1 : Nat)), ((1 : Nat), AVal.int IntKind.i64 x), ((2 : Nat), AVal.int IntKind.i64 y), ((8 : Nat), AVal.own (1 : Nat) (0 : Nat) k (0 : Nat) (1 : Nat)), ((23 : Nat), AVal.int IntKind.i64 N), ((24 : Nat), AVal.int IntKind.i64 (IntKind.i64.wrap ((↑i : Int) + (1 : Int))))] [{ c := BC.typ (Cont.ints IntKind.i64 [x, y]), ver := (0 : Nat) }, { c := BC.typ (Cont.ints IntKind.i64 zs), ver := (0 : Nat) }]) else none else none else L f n (mkS (53 : Nat) [((0 : Nat), AVal.ro (Cont.ints IntKind.i64 xs) m (1 : Nat)), ((1 : Nat), AVal.int IntKind.i64 x), ((2 : Nat), AVal.int IntKind.i64 y), ((8 : Nat), AVal.own (1 : Nat) (0 : Nat) k (0 : Nat) (1 : Nat)), ((23 : Nat), AVal.int IntKind.i64 N), ((24 : Nat), AVal.int IntKind.i64 (IntKind.i64.wrap ((↑i : Int) + (1 : Int))))] [{ c := BC.typ (Cont.ints IntKind.i64 [x, y]), ver := (0 : Nat) }, { c := BC.typ (Cont.ints IntKind.i64 zs), ver := (0 : Nat) }]) else none else none else some (AVal.tup [AVal.own (1 : Nat) (0 : Nat) k (0 : Nat) (1 : Nat), AVal.bool (decide ((0 : Int) < (↑k : Int)))], [{ c := BC.typ (Cont.ints IntKind.i64 [x, y]), ver := (0 : Nat) }, { c := BC.typ (Cont.ints IntKind.i64 zs), ver := (0 : Nat) }])) := by kernel_rfl
theorem loop (xs : List Int) (m : Nat) (x y : Int) (res : List Int) (N f : Nat) (hx : m ≤ xs.length) (hN : 2 * N = m) (hb : m ≤ 1048576) : ∀ (d i n : Nat) (zs : List Int), i + d = N → d < n → zs.length ≤ 2 * i → zs ++ point.pick x y ((xs.take m).drop (2 * i)) i = res →
    L f n (mkS 53 [(0, .ro (.ints .i64 xs) m 1), (1, .int .i64 x), (2, .int .i64 y), (8, .own 1 0 zs.length 0 1), (23, .int .i64 N), (24, .int .i64 i)] [⟨.typ (.ints .i64 [x, y]), 0⟩, ⟨.typ (.ints .i64 zs), 0⟩]) = some (.tup [.own 1 0 res.length 0 1, .bool (decide (0 < res.length))], [⟨.typ (.ints .i64 [x, y]), 0⟩, ⟨.typ (.ints .i64 res), 0⟩]) := by
  intro d
  induction d with
  | zero =>
    intro i n zs hi hn hz hres
    obtain ⟨n, rfl⟩ : ∃ k, n = k + 1 := ⟨n - 1, by omega⟩
    obtain rfl : i = N := by omega
    rw [round]
    have e : (xs.take m).drop (2 * i) = [] := List.drop_of_length_le (by simp; omega)
    rw [e] at hres
    simp only [point.pick, List.append_nil] at hres
    subst hres
    have e2 : decide ((0 : Int) < (zs.length : Int)) = decide (0 < zs.length) := by congr 1; apply propext; omega
    simp only [Int.lt_irrefl, decide_false, cond_false, e2]
  | succ d ih =>
    intro i n zs hi hn hz hres
    obtain ⟨n, rfl⟩ : ∃ k, n = k + 1 := ⟨n - 1, by omega⟩
    have i1 : 2 * i < m := by omega
    have i2 : 2 * i + 1 < m := by omega
    have l1 : 2 * i < xs.length := by omega
    have l2 : 2 * i + 1 < xs.length := by omega
    have h5 : (i : Int) < (N : Int) := by omega
    have c1 : IntKind.i64.wrap (2 * (i : Int)) = ((2 * i : Nat) : Int) := by rw [IntWalk.i64_in _ (by omega)]; omega
    have c2 : IntKind.i64.wrap (((2 * i : Nat) : Int) + 1) = ((2 * i + 1 : Nat) : Int) := by rw [IntWalk.i64_in _ (by omega)]; omega
    have d1 : (0 : Int) ≤ ((2 * i : Nat) : Int) := Int.natCast_nonneg _
    have d2 : ((2 * i : Nat) : Int) < (m : Int) := by omega
    have d3 : (0 : Int) ≤ ((2 * i + 1 : Nat) : Int) := Int.natCast_nonneg _
    have d4 : ((2 * i + 1 : Nat) : Int) < (m : Int) := by omega
    have e2 : 2 * i + 1 + 1 = 2 * (i + 1) := by omega
    rw [drop_take_cons hx i1, drop_take_cons hx i2, e2] at hres
    simp only [point.pick] at hres
    rw [round, c1, c2, Int.toNat_natCast, Int.toNat_natCast, gz_eq l1, gz_eq l2, wrap_nat i (by omega)]
    have k0 : zs.length + 1 ≤ 4611686018427387904 := by omega
    have k1 : (zs.length + 1) * 8 ≤ 140737488355328 := by omega
    simp only [h5, d1, d2, d3, d4, l1, l2, k0, k1, Nat.le_refl, List.take_length, decide_true, Bool.and_self, Bool.or_self, Bool.and_true, Bool.true_and, Bool.or_true, cond_true, one_set, List.length_singleton, Nat.reduceBEq]
    by_cases ca : x ≤ xs[2 * i]
    · by_cases cb : y ≤ xs[2 * i + 1]
      · simp only [ca, cb, decide_true, Bool.and_self, cond_true] at hres ⊢
        have hyes := ih (i + 1) n (zs ++ [(i : Int)]) (by omega) (by omega) (by simp; omega) (by simpa using hres)
        simp only [List.length_append, List.length_cons, List.length_nil, Nat.zero_add] at hyes
        exact hyes
      · simp only [ca, cb, decide_true, decide_false, Bool.and_false, cond_true, cond_false] at hres ⊢
        exact ih (i + 1) n zs (by omega) (by omega) (by omega) hres
    · simp only [ca, decide_false, Bool.false_and, cond_false] at hres ⊢
      exact ih (i + 1) n zs (by omega) (by omega) (by omega) hres
theorem run : ∀ args v new, R args = some (true, v, new) → ∃ fuel, regc [1] (runFn Try.prog (orc [⟨25, iIsBargain.R⟩, ⟨47, areWithin.R⟩]) hd Dr.std none fuel (bodyOf Try.f33) 53 [6, 7] args []) = some (v, new) := by
  intro args v new h
  unfold R at h
  split at h
  · rename_i xs m x y
    simp only [Option.some.injEq, Prod.mk.injEq, Bool.and_eq_true, decide_eq_true_eq] at h
    obtain ⟨⟨⟨h1, h2⟩, hv⟩, rfl, rfl⟩ := h
    have hlen : (xs.take m).length = m := by simp; omega
    obtain ⟨⟨v1, v2, v3⟩, v4, v5, v6⟩ := point.valid hv
    rw [hlen] at v1 v2 v3
    have hv' := hv
    simp only [point.sp, Bool.and_eq_true] at hv'
    obtain ⟨⟨p1, p2, p3⟩, p4, p5⟩ := hv'
    refine ⟨m + 1, ?_⟩
    rw [start]
    have hl := loop xs m x y (point.sv (xs.take m) x y) (m / 2) (m + 1) h1 (by omega) (by omega) (m / 2) 0 (m + 1) [] (by omega) (by omega) (by simp) (by simp [point.sv])
    have c5 : IntKind.i64.wrap (((m : Int)).tdiv 2) = ((m / 2 : Nat) : Int) := by
      have : (m : Int) = 2 * ((m / 2 : Nat) : Int) := by omega
      rw [this, Int.mul_tdiv_cancel_left _ (by decide)]
      exact IntWalk.i64_in _ (by omega)
    rw [c5]
    have hl' : L (m + 1) (m + 1) (mkS 53 [(0, .ro (.ints .i64 xs) m 1), (1, .int .i64 x), (2, .int .i64 y), (8, .own 1 0 0 0 1), (23, .int .i64 ((m / 2 : Nat) : Int)), (24, .int .i64 0)] [⟨.typ (.ints .i64 [x, y]), 0⟩, ⟨.typ (.ints .i64 []), 0⟩]) = _ := hl
    simp only [h1, h2, p1, p2, p3, p4, p5, two_set, two_len, two_le, two_take, List.all_cons, List.all_nil, Nat.le_refl, and_self, decide_true, Bool.and_self, Bool.or_self, Bool.true_and, Bool.and_true, Bool.or_true, cond_true, cond_false, Bool.not_true]
    have hgo : regc [1] (L (m + 1) (m + 1) (mkS 53 [(0, .ro (.ints .i64 xs) m 1), (1, .int .i64 x), (2, .int .i64 y), (8, .own 1 0 0 0 1), (23, .int .i64 ((m / 2 : Nat) : Int)), (24, .int .i64 0)] [⟨.typ (.ints .i64 [x, y]), 0⟩, ⟨.typ (.ints .i64 []), 0⟩])) = _ := congrArg (regc [1]) hl'
    exact hgo.trans rfl
  · cases h
theorem ok : EntOk Try.prog ⟨33, R⟩ :=
  ent_okAG (ks := [1]) mixed (A := (orc [⟨25, iIsBargain.R⟩, ⟨47, areWithin.R⟩])) (orc_ok (by simp only [List.mem_cons, List.not_mem_nil, or_false, forall_eq_or_imp, forall_eq]; exact ⟨iIsBargain.ok, areWithin.ok⟩)) Try.func33 (by kernel_rfl) (by kernel_rfl) (n := 53) (ts := [6, 7]) (hd := hd) (dr := Dr.std) (cut := none) (by kernel_rfl) (by kernel_rfl) (by kernel_rfl) run
end better

namespace betterF
def R : List AVal → Option (Bool × AVal × List Blk)
  | [.ro (.ints .i64 xs) m 1, .int .i64 x, .int .i64 y] => some (decide (m ≤ xs.length ∧ m ≤ 4611686018427387904) && !point.sp (xs.take m) x y, .tup [.nils, .bool false], [])
  | _ => none
def hd : Nat → Head := fun _ => ⟨[0, 1, 2, 8, 23, 24], some 2⟩
noncomputable def L (f n : Nat) (s : State) := loopAt Try.prog (orc [⟨25, iIsBargain.R⟩, ⟨47, areWithin.R⟩]) hd Dr.std 0 f (bodyOf Try.f33) 0 [true, true, true, false, true] (retK Try.prog [6, 7] 0 (some 0)) n s
theorem start (xs : List Int) (m : Nat) (x y : Int) (f : Nat) :
  runFn Try.prog (orc [⟨25, iIsBargain.R⟩, ⟨47, areWithin.R⟩]) hd Dr.std (some 0) f (bodyOf Try.f33) 53 [6, 7] [.ro (.ints .i64 xs) m 1, .int .i64 x, .int .i64 y] []
  = (bif decide (m ≤ xs.length ∧ m ≤ (4611686018427387904 : Nat)) && (true && true || true && true) then bif !l07Points.sp (List.take m xs) then some (AVal.tup [AVal.nils, AVal.bool false], []) else bif decide ((2 : Nat) ≤ (((List.replicate (2 : Nat) (0 : Int)).set (0 : Nat) x).set (1 : Nat) y).length ∧ (2 : Nat) ≤ (4611686018427387904 : Nat)) && (false && true || true && true) then bif !(List.take (2 : Nat) (((List.replicate (2 : Nat) (0 : Int)).set (0 : Nat) x).set (1 : Nat) y)).all fun x => decide ((0 : Int) ≤ x) && decide (x ≤ (1000 : Int)) then some (AVal.tup [AVal.nils, AVal.bool false], []) else L f f (mkS (53 : Nat) [((0 : Nat), AVal.ro (Cont.ints IntKind.i64 xs) m (1 : Nat)), ((1 : Nat), AVal.int IntKind.i64 x), ((2 : Nat), AVal.int IntKind.i64 y), ((8 : Nat), AVal.own (1 : Nat) (0 : Nat) (0 : Nat) (0 : Nat) (1 : Nat)), ((23 : Nat), AVal.int IntKind.i64 (IntKind.i64.wrap ((↑m : Int).tdiv (2 : Int)))), ((24 : Nat), AVal.int IntKind.i64 (0 : Int))] [{ c := BC.typ (Cont.ints IntKind.i64 (((List.replicate (2 : Nat) (0 : Int)).set (0 : Nat) x).set (1 : Nat) y)), ver := (0 : Nat) }, { c := BC.typ (Cont.ints IntKind.i64 (List.replicate (0 : Nat) (0 : Int))), ver := (0 : Nat) }]) else none else none) := by kernel_rfl
theorem run : ∀ args v new, R args = some (true, v, new) → ∃ fuel, runFn Try.prog (orc [⟨25, iIsBargain.R⟩, ⟨47, areWithin.R⟩]) hd Dr.std (some 0) fuel (bodyOf Try.f33) 53 [6, 7] args [] = some (v, new) := by
  intro args v new h
  unfold R at h
  split at h
  · rename_i xs m x y
    simp only [Option.some.injEq, Prod.mk.injEq, Bool.and_eq_true, decide_eq_true_eq, Bool.not_eq_true'] at h
    obtain ⟨⟨⟨h1, h2⟩, hv⟩, rfl, rfl⟩ := h
    refine ⟨0, ?_⟩
    rw [start]
    simp only [two_set, two_len, two_le, two_take, Nat.le_refl, List.all_cons, List.all_nil, h1, h2, and_self, decide_true, Bool.and_self, Bool.or_self, Bool.true_and, Bool.and_true, Bool.or_true, cond_true]
    unfold point.sp at hv
    cases hb : l07Points.sp (xs.take m)
    · rfl
    · rw [hb] at hv
      simp only [Bool.true_and] at hv
      simp only [Bool.not_true, cond_false, hv, Bool.not_false, cond_true]
  · cases h
theorem ok : EntOk Try.prog ⟨33, R⟩ :=
  ent_okA mixed (A := (orc [⟨25, iIsBargain.R⟩, ⟨47, areWithin.R⟩])) (orc_ok (by simp only [List.mem_cons, List.not_mem_nil, or_false, forall_eq_or_imp, forall_eq]; exact ⟨iIsBargain.ok, areWithin.ok⟩)) Try.func33 (by kernel_rfl) (by kernel_rfl) (n := 53) (ts := [6, 7]) (hd := hd) (dr := Dr.std) (cut := (some 0)) (by kernel_rfl) (by kernel_rfl) (by kernel_rfl) run
end betterF















end Go.Proofs.Ytadpndpbooofiaa.Ab
