/-
  Functions: wishes: the lists of the reference, repeated numbers.
-/
import Derived.Test.YthecninmmojkgaaFnUC
import Derived.Test.YthecninmmojkgaaFnZA
import Derived.Test.YthecninmmojkgaaFnTt
import Derived.Test.YthecninmmojkgaaFnB
import Derived.Test.YthecninmmojkgaaFnC
namespace Go.Proofs.Ythecninmmojkgaa.Ab
open Go
set_option linter.unusedVariables false
set_option linter.unusedSimpArgs false
set_option maxRecDepth 100000

set_option maxRecDepth 100000
theorem len_bound (xs : List (List Int)) : ∃ B, ∀ r ∈ xs, r.length < B := by
  induction xs with
  | nil => exact ⟨0, fun r hr => by cases hr⟩
  | cons x t ih =>
    obtain ⟨B, hB⟩ := ih
    refine ⟨B + x.length + 1, fun r hr => ?_⟩
    rcases List.mem_cons.1 hr with rfl | hr
    · omega
    · have := hB r hr; omega
namespace l05Place
def R : List AVal → Option (Bool × AVal × List Blk)
  | [.ro (.ints .i64 xs) m 1, .int .i64 v] => some (decide (m = xs.length ∧ m ≤ 4611686018427387904), .int .i64 (pl.sv v xs), [])
  | _ => none
def hd : Nat → Head := fun _ => ⟨[0, 1, 4, 7, 8], none⟩
noncomputable def L (f n : Nat) (s : State) := loopAt Try.prog (orc []) hd Dr.std 0 f (bodyOf Try.f78) 0 [true, false, true] (retK Try.prog [4] 0 none) n s
theorem start (xs : List Int) (m : Nat) (v : Int) (f : Nat) :
  runFn Try.prog (orc []) hd Dr.std none f (bodyOf Try.f78) 21 [4] [.ro (.ints .i64 xs) m 1, .int .i64 v] []
  = (L f f (mkS (21 : Nat) [((0 : Nat), AVal.ro (Cont.ints IntKind.i64 xs) m (1 : Nat)), ((1 : Nat), AVal.int IntKind.i64 v), ((4 : Nat), AVal.int IntKind.i64 (0 : Int)), ((7 : Nat), AVal.int IntKind.i64 (↑m : Int)), ((8 : Nat), AVal.int IntKind.i64 (0 : Int))] [])) := by kernel_rfl
theorem round (xs : List Int) (m : Nat) (v : Int) (i : Nat) (f n : Nat) :
  L f (n + 1) (mkS 21 [(0, .ro (.ints .i64 xs) m 1), (1, .int .i64 v), (4, .int .i64 0), (7, .int .i64 m), (8, .int .i64 i)] [])
  = (bif decide ((↑i : Int) < (↑m : Int)) then bif true && (decide ((0 : Int) ≤ (↑i : Int)) && decide ((↑i : Int) < (↑m : Int))) then bif decide ((↑i : Int).toNat < xs.length) then bif gz xs (↑i : Int).toNat == v then some (AVal.int IntKind.i64 (↑i : Int), []) else L f n (mkS (21 : Nat) [((0 : Nat), AVal.ro (Cont.ints IntKind.i64 xs) m (1 : Nat)), ((1 : Nat), AVal.int IntKind.i64 v), ((4 : Nat), AVal.int IntKind.i64 (0 : Int)), ((7 : Nat), AVal.int IntKind.i64 (↑m : Int)), ((8 : Nat), AVal.int IntKind.i64 (IntKind.i64.wrap ((↑i : Int) + (1 : Int))))] []) else none else none else some (AVal.int IntKind.i64 (↑m : Int), [])) := by kernel_rfl
theorem loop (xs : List Int) (m : Nat) (v : Int) (f : Nat) (hm : m = xs.length) (hb : m ≤ 4611686018427387904) : ∀ (d i n : Nat) , i + d = m → d < n →
    L f n (mkS 21 [(0, .ro (.ints .i64 xs) m 1), (1, .int .i64 v), (4, .int .i64 0), (7, .int .i64 m), (8, .int .i64 i)] []) = some (.int .i64 ((pl.go v (xs.drop i) i : Nat) : Int), []) := by
  intro d
  induction d with
  | zero =>
    intro i n  hi hn 
    obtain ⟨n, rfl⟩ : ∃ k, n = k + 1 := ⟨n - 1, by omega⟩
    obtain rfl : i = m := by omega
    rw [round]
    have e : xs.drop i = [] := List.drop_of_length_le (by omega)
    rw [e]
    simp [pl.go]
  | succ d ih =>
    intro i n  hi hn 
    obtain ⟨n, rfl⟩ : ∃ k, n = k + 1 := ⟨n - 1, by omega⟩
    have h1 : i < m := by omega
    have h4 : (0 : Int) ≤ (i : Int) := Int.natCast_nonneg _
    have h5 : (i : Int) < (m : Int) := by omega
    have h2 : i < xs.length := by omega
    rw [round]
    rw [List.drop_eq_getElem_cons h2]
    have hr := ih (i + 1) n (by omega) (by omega)
    have hh : (xs[i] == v) = has.sp v xs[i] := rfl
    simp only [pl.go, h4, h5, h2, gz_eq h2, hh, decide_true, Bool.and_self, Bool.or_self, Bool.and_true, Bool.true_and, cond_true, Int.toNat_natCast, wrap_nat i (by omega)]
    rcases Bool.eq_false_or_eq_true (has.sp v xs[i]) with c | c
    · simp only [c, cond_true]
    · simp only [c, cond_false]; exact hr
theorem run : ∀ args v new, R args = some (true, v, new) → ∃ fuel, runFn Try.prog (orc []) hd Dr.std none fuel (bodyOf Try.f78) 21 [4] args [] = some (v, new) := by
  intro args v new h
  unfold R at h
  split at h
  · rename_i xs m v
    simp only [Option.some.injEq, Prod.mk.injEq, decide_eq_true_eq] at h
    obtain ⟨⟨h1, h2⟩, rfl, rfl⟩ := h
    refine ⟨m + 1, ?_⟩
    rw [start]
    have hl := loop xs m v (m + 1) h1 h2 m 0 (m + 1) (by omega) (by omega)
    unfold pl.sv
    simpa using hl
  · cases h
theorem ok : EntOk Try.prog ⟨78, R⟩ :=
  ent_okA mixed (A := (orc [])) (orc_ok (by simp)) Try.func78 (by kernel_rfl) (by kernel_rfl) (n := 21) (ts := [4]) (hd := hd) (dr := Dr.std) (cut := none) (by kernel_rfl) (by kernel_rfl) (by kernel_rfl) run
end l05Place

namespace l05Takes
def R : List AVal → Option (Bool × AVal × List Blk)
  | [.ro (.ints .i64 xs) m 1, .int .i64 v] => some (decide (m = xs.length ∧ m ≤ 4611686018427387904), .bool (xs.any (has.sp v)), [])
  | _ => none
theorem go (xs : List Int) (m : Nat) (v : Int) :
  runFn Try.prog (orc [⟨78, l05Place.R⟩]) hd0 Dr.std none 0 (bodyOf Try.f73) 11 [4] [.ro (.ints .i64 xs) m 1, .int .i64 v] []
  = (bif decide (m = xs.length ∧ m ≤ (4611686018427387904 : Nat)) && (true && (true && true) || true && true) then some (AVal.bool (decide (pl.sv v xs < (↑m : Int))), []) else none) := by kernel_rfl
theorem run : ∀ args v new, R args = some (true, v, new) → ∃ fuel, runFn Try.prog (orc [⟨78, l05Place.R⟩]) hd0 Dr.std none fuel (bodyOf Try.f73) 11 [4] args [] = some (v, new) := by
  intro args v new h
  unfold R at h
  split at h
  · rename_i xs m v
    simp only [Option.some.injEq, Prod.mk.injEq, decide_eq_true_eq] at h
    obtain ⟨⟨rfl, h1⟩, rfl, rfl⟩ := h
    refine ⟨0, ?_⟩
    rw [go]
    simp only [h1, pl_any, and_self, decide_true, decide_false, Bool.and_self, Bool.or_self, Bool.and_true, Bool.true_and, Bool.and_false, Bool.false_and, Bool.or_true, Bool.true_or, Bool.or_false, Bool.false_or, Bool.not_true, Bool.not_false, cond_true, cond_false]
  · cases h
theorem ok : EntOk Try.prog ⟨73, R⟩ :=
  ent_okA mixed (A := (orc [⟨78, l05Place.R⟩])) (orc_ok (by simp only [List.mem_cons, List.not_mem_nil, or_false, forall_eq_or_imp, forall_eq]; exact l05Place.ok)) Try.func73 (by kernel_rfl) (by kernel_rfl) (n := 11) (ts := [4]) (hd := hd0) (dr := Dr.std) (cut := none) (by kernel_rfl) (by kernel_rfl) (by kernel_rfl) run
end l05Takes

namespace l05Lists
def R : List AVal → Option (Bool × AVal × List Blk)
  | [.ro (.rows .i64 xs) m 1, .int .i64 v] => some (decide (m = xs.length ∧ m ≤ 4611686018427387904 ∧ 0 ≤ v ∧ v ≤ 4611686018427387904) && short.sp 4611686018427387904 xs, .bool (lo.sp v xs && decide ((m : Int) = v)), [])
  | _ => none
def hd : Nat → Head := fun i => bif eqN i 0 then ⟨[0, 1, 4, 8, 9], none⟩ else ⟨[0, 1, 4, 5, 8, 9, 16, 17], none⟩
noncomputable def L1 (f n : Nat) (s : State) := loopAt Try.prog (orc [⟨29, l00In.R⟩, ⟨72, l00Has.R⟩]) hd Dr.std 0 f (bodyOf Try.f54) 0 [true, false, true] (retK Try.prog [4] 0 none) n s
noncomputable def L2 (f n n2 : Nat) (s : State) := loopAt Try.prog (orc [⟨29, l00In.R⟩, ⟨72, l00Has.R⟩]) hd Dr.std 0 f (bodyAt (bodyOf Try.f54) [true, false, true]) (curAt (bodyOf Try.f54) 0 [true, false, true]) [true, true, false, true, true] (iterK (normE 0 (hd (curAt (bodyOf Try.f54) 0 [true, false, true]))) (L1 f n) (contAt Try.prog (orc [⟨29, l00In.R⟩, ⟨72, l00Has.R⟩]) hd Dr.std 0 f (bodyOf Try.f54) 0 [true, false, true] (retK Try.prog [4] 0 none))) n2 s
theorem start (xs : List (List Int)) (m : Nat) (v : Int) (f : Nat) :
  runFn Try.prog (orc [⟨29, l00In.R⟩, ⟨72, l00Has.R⟩]) hd Dr.std none f (bodyOf Try.f54) 53 [4] [.ro (.rows .i64 xs) m 1, .int .i64 v] []
  = (L1 f f (mkS (53 : Nat) [((0 : Nat), AVal.ro (Cont.rows IntKind.i64 xs) m (1 : Nat)), ((1 : Nat), AVal.int IntKind.i64 v), ((4 : Nat), AVal.bool false), ((8 : Nat), AVal.int IntKind.i64 (↑m : Int)), ((9 : Nat), AVal.int IntKind.i64 (0 : Int))] [])) := by kernel_rfl
theorem round1 (xs : List (List Int)) (m : Nat) (v : Int) (i : Nat) (f n : Nat) :
  L1 f (n + 1) (mkS 53 [(0, .ro (.rows .i64 xs) m 1), (1, .int .i64 v), (4, .bool false), (8, .int .i64 m), (9, .int .i64 i)] [])
  = (bif decide ((↑i : Int) < (↑m : Int)) then bif true && (decide ((0 : Int) ≤ (↑i : Int)) && decide ((↑i : Int) < (↑m : Int))) then bif decide ((↑i : Int).toNat < xs.length) then L2 f n f (mkS (53 : Nat) [((0 : Nat), AVal.ro (Cont.rows IntKind.i64 xs) m (1 : Nat)), ((1 : Nat), AVal.int IntKind.i64 v), ((4 : Nat), AVal.bool false), ((5 : Nat), AVal.int IntKind.i64 (↑i : Int)), ((8 : Nat), AVal.int IntKind.i64 (↑m : Int)), ((9 : Nat), AVal.int IntKind.i64 (↑i : Int)), ((16 : Nat), AVal.int IntKind.i64 (↑(gr xs (↑i : Int).toNat).length : Int)), ((17 : Nat), AVal.int IntKind.i64 (0 : Int))] []) else none else none else some (AVal.bool ((↑m : Int) == v), [])) := by kernel_rfl
theorem round2 (xs : List (List Int)) (m : Nat) (v : Int) (i r k : Nat) (f n n2 : Nat) :
  L2 f n (n2 + 1) (mkS 53 [(0, .ro (.rows .i64 xs) m 1), (1, .int .i64 v), (4, .bool false), (5, .int .i64 i), (8, .int .i64 m), (9, .int .i64 i), (16, .int .i64 (r : Nat)), (17, .int .i64 (k : Nat))] [])
  = (bif decide ((↑k : Int) < (↑r : Int)) then bif true && (decide ((0 : Int) ≤ (↑i : Int)) && decide ((↑i : Int) < (↑m : Int))) then bif decide ((↑i : Int).toNat < xs.length) then bif true && (decide ((0 : Int) ≤ (↑k : Int)) && decide ((↑k : Int) < (↑(gr xs (↑i : Int).toNat).length : Int))) then bif decide ((↑k : Int).toNat < (gr xs (↑i : Int).toNat).length) then bif true && (true && (true && (true && true)) || true && true) then bif !(decide ((0 : Int) ≤ gz (gr xs (↑i : Int).toNat) (↑k : Int).toNat) && decide (gz (gr xs (↑i : Int).toNat) (↑k : Int).toNat ≤ IntKind.i64.wrap (v - (1 : Int)))) then some (AVal.bool false, []) else bif true && (decide ((0 : Int) ≤ (↑i : Int)) && decide ((↑i : Int) < (↑m : Int))) then bif decide ((↑i : Int).toNat < xs.length) then bif true && (decide ((0 : Int) ≤ (↑k : Int)) && decide ((↑k : Int) ≤ (↑(gr xs (↑i : Int).toNat).length : Int)) && true) then bif true && (decide ((0 : Int) ≤ (↑i : Int)) && decide ((↑i : Int) < (↑m : Int))) then bif decide ((↑i : Int).toNat < xs.length) then bif true && (decide ((0 : Int) ≤ (↑k : Int)) && decide ((↑k : Int) < (↑(gr xs (↑i : Int).toNat).length : Int))) then bif decide ((↑k : Int).toNat < (gr xs (↑i : Int).toNat).length) then bif decide ((↑k : Int).toNat - (0 : Nat) ≤ (List.take ((↑k : Int).toNat - (0 : Nat)) (List.drop (nat_lit 0) (gr xs (↑i : Int).toNat))).length ∧ (↑k : Int).toNat - (0 : Nat) ≤ (4611686018427387904 : Nat)) && (true && (true && true) || true && true) then bif (List.take ((↑k : Int).toNat - (0 : Nat)) (List.take ((↑k : Int).toNat - (0 : Nat)) (List.drop (0 : Nat) (gr xs (↑i : Int).toNat)))).any (has.sp (gz (gr xs (↑i : Int).toNat) (↑k : Int).toNat)) then some (AVal.bool false, []) else L2 f n n2 (mkS (53 : Nat) [((0 : Nat), AVal.ro (Cont.rows IntKind.i64 xs) m (1 : Nat)), ((1 : Nat), AVal.int IntKind.i64 v), ((4 : Nat), AVal.bool false), ((5 : Nat), AVal.int IntKind.i64 (↑i : Int)), ((8 : Nat), AVal.int IntKind.i64 (↑m : Int)), ((9 : Nat), AVal.int IntKind.i64 (↑i : Int)), ((16 : Nat), AVal.int IntKind.i64 (↑r : Int)), ((17 : Nat), AVal.int IntKind.i64 (IntKind.i64.wrap ((↑k : Int) + (1 : Int))))] []) else none else none else none else none else none else none else none else none else none else none else none else none else none else L1 f n (mkS (53 : Nat) [((0 : Nat), AVal.ro (Cont.rows IntKind.i64 xs) m (1 : Nat)), ((1 : Nat), AVal.int IntKind.i64 v), ((4 : Nat), AVal.bool false), ((8 : Nat), AVal.int IntKind.i64 (↑m : Int)), ((9 : Nat), AVal.int IntKind.i64 (IntKind.i64.wrap ((↑i : Int) + (1 : Int))))] [])) := by kernel_rfl
theorem inner (xs : List (List Int)) (m : Nat) (v : Int) (f n i : Nat) (hm : m = xs.length) (hi : i < m) (hb : m ≤ 4611686018427387904) (hs : short.sp 4611686018427387904 xs = true) (hv : 0 ≤ v) (hv2 : v ≤ 4611686018427387904) : ∀ (d k n2 : Nat), k + d = (gr xs i).length → d < n2 →
    L2 f n n2 (mkS 53 [(0, .ro (.rows .i64 xs) m 1), (1, .int .i64 v), (4, .bool false), (5, .int .i64 i), (8, .int .i64 m), (9, .int .i64 i), (16, .int .i64 ((gr xs i).length : Nat)), (17, .int .i64 (k : Nat))] []) = bif uniq.sq v ((gr xs i).take k) ((gr xs i).drop k) then L1 f n (mkS 53 [(0, .ro (.rows .i64 xs) m 1), (1, .int .i64 v), (4, .bool false), (8, .int .i64 m), (9, .int .i64 ((i + 1 : Nat) : Int))] []) else some (.bool false, []) := by
  have h4 : (0 : Int) ≤ (i : Int) := Int.natCast_nonneg _
  have h5 : (i : Int) < (m : Int) := by omega
  have h2 : i < xs.length := by omega
  have hr : (gr xs i).length ≤ 4611686018427387904 := by rw [gr_eq h2]; exact short_get hs h2
  intro d
  induction d with
  | zero =>
    intro k n2 hk hn
    obtain ⟨n2, rfl⟩ : ∃ k, n2 = k + 1 := ⟨n2 - 1, by omega⟩
    obtain rfl : k = (gr xs i).length := by omega
    rw [round2, List.drop_length]
    simp -implicitDefEqProofs only [uniq.sq, Int.lt_irrefl, wrap_nat i (by omega), and_self, decide_true, decide_false, Bool.and_self, Bool.or_self, Bool.and_true, Bool.true_and, Bool.and_false, Bool.false_and, Bool.or_true, Bool.true_or, Bool.or_false, Bool.false_or, Bool.not_true, Bool.not_false, cond_true, cond_false]
  | succ d ih =>
    intro k n2 hk hn
    obtain ⟨n2, rfl⟩ : ∃ k, n2 = k + 1 := ⟨n2 - 1, by omega⟩
    have k1 : k < (gr xs i).length := by omega
    have k4 : (0 : Int) ≤ (k : Int) := Int.natCast_nonneg _
    have k5 : (k : Int) < ((gr xs i).length : Int) := by omega
    have k6 : (k : Int) ≤ ((gr xs i).length : Int) := by omega
    have a1 : k ≤ 4611686018427387904 := by omega
    have a2 : k ≤ (gr xs i).length := by omega
    have w : IntKind.i64.wrap (v - 1) = v - 1 := IntWalk.i64_in _ (by omega)
    have hih := ih (k + 1) n2 (by omega) (by omega)
    rw [List.drop_eq_getElem_cons k1]
    simp only [uniq.sq]
    rw [take_snoc k1, round2]
    simp -implicitDefEqProofs only [h4, h5, h2, k1, k4, k5, k6, a1, a2, w, gz_eq k1, List.drop_zero, Nat.mul_one, Nat.zero_mul, Nat.sub_zero, List.length_take, Nat.min_eq_left a2, Nat.le_refl, List.take_take, Nat.min_self, Int.toNat_natCast, wrap_nat k (by omega), and_self, decide_true, decide_false, Bool.and_self, Bool.or_self, Bool.and_true, Bool.true_and, Bool.and_false, Bool.false_and, Bool.or_true, Bool.true_or, Bool.or_false, Bool.false_or, Bool.not_true, Bool.not_false, cond_true, cond_false]
    rw [hih]
    generalize (decide (0 ≤ (gr xs i)[k]) && decide ((gr xs i)[k] ≤ v - 1)) = b1
    generalize ((gr xs i).take k).any (has.sp (gr xs i)[k]) = b2
    cases b1
    · simp -implicitDefEqProofs only [and_self, decide_true, decide_false, Bool.and_self, Bool.or_self, Bool.and_true, Bool.true_and, Bool.and_false, Bool.false_and, Bool.or_true, Bool.true_or, Bool.or_false, Bool.false_or, Bool.not_true, Bool.not_false, cond_true, cond_false]
    · cases b2
      · simp -implicitDefEqProofs only [and_self, decide_true, decide_false, Bool.and_self, Bool.or_self, Bool.and_true, Bool.true_and, Bool.and_false, Bool.false_and, Bool.or_true, Bool.true_or, Bool.or_false, Bool.false_or, Bool.not_true, Bool.not_false, cond_true, cond_false]
      · simp -implicitDefEqProofs only [and_self, decide_true, decide_false, Bool.and_self, Bool.or_self, Bool.and_true, Bool.true_and, Bool.and_false, Bool.false_and, Bool.or_true, Bool.true_or, Bool.or_false, Bool.false_or, Bool.not_true, Bool.not_false, cond_true, cond_false]
theorem outer (xs : List (List Int)) (m : Nat) (v : Int) (f : Nat) (hf : ∀ r ∈ xs, r.length < f) (hm : m = xs.length) (hb : m ≤ 4611686018427387904) (hs : short.sp 4611686018427387904 xs = true) (hv : 0 ≤ v) (hv2 : v ≤ 4611686018427387904) : ∀ (d i n : Nat), i + d = m → d < n →
    L1 f n (mkS 53 [(0, .ro (.rows .i64 xs) m 1), (1, .int .i64 v), (4, .bool false), (8, .int .i64 m), (9, .int .i64 i)] []) = some (.bool ((xs.drop i).all (rk.sp v) && decide ((m : Int) = v)), []) := by
  intro d
  induction d with
  | zero =>
    intro i n hi hn
    obtain ⟨n, rfl⟩ : ∃ k, n = k + 1 := ⟨n - 1, by omega⟩
    obtain rfl : i = m := by omega
    have e : xs.drop i = [] := List.drop_of_length_le (by omega)
    have e2 : (((i : Nat) : Int) == v) = decide ((i : Int) = v) := rfl
    rw [round1 (v := v), e]
    simp -implicitDefEqProofs only [Int.lt_irrefl, e2, List.all_nil, and_self, decide_true, decide_false, Bool.and_self, Bool.or_self, Bool.and_true, Bool.true_and, Bool.and_false, Bool.false_and, Bool.or_true, Bool.true_or, Bool.or_false, Bool.false_or, Bool.not_true, Bool.not_false, cond_true, cond_false]
  | succ d ih =>
    intro i n hi hn
    obtain ⟨n, rfl⟩ : ∃ k, n = k + 1 := ⟨n - 1, by omega⟩
    have h1 : i < m := by omega
    have h4 : (0 : Int) ≤ (i : Int) := Int.natCast_nonneg _
    have h5 : (i : Int) < (m : Int) := by omega
    have h2 : i < xs.length := by omega
    have hl : (gr xs i).length < f := by rw [gr_eq h2]; exact hf _ (List.getElem_mem h2)
    have hin := inner xs m v f n i hm h1 hb hs hv hv2 (gr xs i).length 0 f (by omega) hl
    rw [List.take_zero, List.drop_zero] at hin
    have hih := ih (i + 1) n (by omega) (by omega)
    rw [round1, List.drop_eq_getElem_cons h2, List.all_cons]
    have hh : rk.sp v xs[i] = uniq.sq v [] (gr xs i) := by rw [gr_eq h2]; rfl
    rw [hh]
    simp -implicitDefEqProofs only [h4, h5, h2, Int.toNat_natCast, and_self, decide_true, decide_false, Bool.and_self, Bool.or_self, Bool.and_true, Bool.true_and, Bool.and_false, Bool.false_and, Bool.or_true, Bool.true_or, Bool.or_false, Bool.false_or, Bool.not_true, Bool.not_false, cond_true, cond_false]
    refine hin.trans ?_
    rw [hih]
    generalize uniq.sq v [] (gr xs i) = b
    cases b
    · simp -implicitDefEqProofs only [and_self, decide_true, decide_false, Bool.and_self, Bool.or_self, Bool.and_true, Bool.true_and, Bool.and_false, Bool.false_and, Bool.or_true, Bool.true_or, Bool.or_false, Bool.false_or, Bool.not_true, Bool.not_false, cond_true, cond_false]
    · simp -implicitDefEqProofs only [and_self, decide_true, decide_false, Bool.and_self, Bool.or_self, Bool.and_true, Bool.true_and, Bool.and_false, Bool.false_and, Bool.or_true, Bool.true_or, Bool.or_false, Bool.false_or, Bool.not_true, Bool.not_false, cond_true, cond_false]
theorem run : ∀ args v new, R args = some (true, v, new) → ∃ fuel, runFn Try.prog (orc [⟨29, l00In.R⟩, ⟨72, l00Has.R⟩]) hd Dr.std none fuel (bodyOf Try.f54) 53 [4] args [] = some (v, new) := by
  intro args v new h
  unfold R at h
  split at h
  · rename_i xs m v
    simp only [Option.some.injEq, Prod.mk.injEq, Bool.and_eq_true, decide_eq_true_eq] at h
    obtain ⟨⟨⟨h1, h2, h3, h4⟩, h5⟩, rfl, rfl⟩ := h
    obtain ⟨B, hB⟩ := len_bound xs
    obtain ⟨F, hF⟩ : ∃ F : Nat, F = m + 1 + B := ⟨_, rfl⟩
    refine ⟨F, ?_⟩
    rw [start]
    have hl := outer xs m v F (fun r hr => by have := hB r hr; omega) h1 h2 h5 h3 h4 m 0 F (by omega) (by omega)
    rw [List.drop_zero] at hl
    exact hl
  · cases h
theorem ok : EntOk Try.prog ⟨54, R⟩ :=
  ent_okA mixed (A := (orc [⟨29, l00In.R⟩, ⟨72, l00Has.R⟩])) (orc_ok (by simp only [List.mem_cons, List.not_mem_nil, or_false, forall_eq_or_imp, forall_eq]; exact ⟨l00In.ok, l00Has.ok⟩)) Try.func54 (by kernel_rfl) (by kernel_rfl) (n := 53) (ts := [4]) (hd := hd) (dr := Dr.std) (cut := none) (by kernel_rfl) (by kernel_rfl) (by kernel_rfl) run
end l05Lists

namespace l05Is
def R : List AVal → Option (Bool × AVal × List Blk)
  | [.rom [.ro (.rows .i64 ls) m 1, .ro (.rows .i64 rs) k 1] 0] => some (decide (m = ls.length ∧ m ≤ 4611686018427387904 ∧ k = rs.length ∧ k ≤ 4611686018427387904) && (short.sp 4611686018427387904 ls && short.sp 4611686018427387904 rs), .bool (vw.sp ls rs), [])
  | _ => none
theorem go (ls rs : List (List Int)) (m k : Nat) :
  runFn Try.prog (orc [⟨54, l05Lists.R⟩]) hd0 Dr.std none 0 (bodyOf Try.f61) 31 [2] [.rom [.ro (.rows .i64 ls) m 1, .ro (.rows .i64 rs) k 1] 0] []
  = (bif decide ((1 : Int) ≤ (↑m : Int)) then bif decide ((↑m : Int) ≤ (8 : Int)) then bif decide (m = ls.length ∧ m ≤ (4611686018427387904 : Nat) ∧ (0 : Int) ≤ (↑m : Int) ∧ (↑m : Int) ≤ (4611686018427387904 : Int)) && short.sp (4611686018427387904 : Nat) ls && (true && (true && true) || true && true) then bif lo.sp (↑m : Int) ls && decide ((↑m : Int) = (↑m : Int)) then bif decide (k = rs.length ∧ k ≤ (4611686018427387904 : Nat) ∧ (0 : Int) ≤ (↑m : Int) ∧ (↑m : Int) ≤ (4611686018427387904 : Int)) && short.sp (4611686018427387904 : Nat) rs && (true && (true && true) || true && true) then some (AVal.bool (lo.sp (↑m : Int) rs && decide ((↑k : Int) = (↑m : Int))), []) else none else some (AVal.bool false, []) else none else some (AVal.bool false, []) else some (AVal.bool false, [])) := by kernel_rfl
theorem run : ∀ args v new, R args = some (true, v, new) → ∃ fuel, runFn Try.prog (orc [⟨54, l05Lists.R⟩]) hd0 Dr.std none fuel (bodyOf Try.f61) 31 [2] args [] = some (v, new) := by
  intro args v new h
  unfold R at h
  split at h
  · rename_i ls m rs k
    simp only [Option.some.injEq, Prod.mk.injEq, Bool.and_eq_true, decide_eq_true_eq] at h
    obtain ⟨⟨⟨rfl, h1, rfl, h2⟩, h3, h4⟩, rfl, rfl⟩ := h
    refine ⟨0, ?_⟩
    rw [go]
    unfold vw.sp
    have n1 : (0 : Int) ≤ (ls.length : Int) := Int.natCast_nonneg _
    have n2 : (ls.length : Int) ≤ 4611686018427387904 := by omega
    simp only [h1, h2, h3, h4, n1, n2, and_self, decide_true, decide_false, Bool.and_self, Bool.or_self, Bool.and_true, Bool.true_and, Bool.and_false, Bool.false_and, Bool.or_true, Bool.true_or, Bool.or_false, Bool.false_or, Bool.not_true, Bool.not_false, cond_true, cond_false]
    by_cases a1 : (1 : Int) ≤ (ls.length : Int)
    · by_cases a2 : (ls.length : Int) ≤ 8
      · by_cases hq : (rs.length : Int) = (ls.length : Int)
        · have hq' : (ls.length : Int) = (rs.length : Int) := hq.symm
          simp only [hq, a1, a2, and_self, decide_true, decide_false, Bool.and_self, Bool.or_self, Bool.and_true, Bool.true_and, Bool.and_false, Bool.false_and, Bool.or_true, Bool.true_or, Bool.or_false, Bool.false_or, Bool.not_true, Bool.not_false, cond_true, cond_false]
          generalize lo.sp (ls.length : Int) ls = b
          generalize lo.sp (ls.length : Int) rs = c
          cases b <;> cases c <;> rfl
        · have hq' : ¬ ((ls.length : Int) = (rs.length : Int)) := fun h => hq h.symm
          simp only [hq, hq', a1, a2, and_self, decide_true, decide_false, Bool.and_self, Bool.or_self, Bool.and_true, Bool.true_and, Bool.and_false, Bool.false_and, Bool.or_true, Bool.true_or, Bool.or_false, Bool.false_or, Bool.not_true, Bool.not_false, cond_true, cond_false]
          generalize lo.sp (ls.length : Int) ls = b
          cases b <;> rfl
      · simp only [a1, a2, and_self, decide_true, decide_false, Bool.and_self, Bool.or_self, Bool.and_true, Bool.true_and, Bool.and_false, Bool.false_and, Bool.or_true, Bool.true_or, Bool.or_false, Bool.false_or, Bool.not_true, Bool.not_false, cond_true, cond_false]
    · simp only [a1, and_self, decide_true, decide_false, Bool.and_self, Bool.or_self, Bool.and_true, Bool.true_and, Bool.and_false, Bool.false_and, Bool.or_true, Bool.true_or, Bool.or_false, Bool.false_or, Bool.not_true, Bool.not_false, cond_true, cond_false]
  · cases h
theorem ok : EntOk Try.prog ⟨61, R⟩ :=
  ent_okA mixed (A := (orc [⟨54, l05Lists.R⟩])) (orc_ok (by simp only [List.mem_cons, List.not_mem_nil, or_false, forall_eq_or_imp, forall_eq]; exact l05Lists.ok)) Try.func61 (by kernel_rfl) (by kernel_rfl) (n := 31) (ts := [2]) (hd := hd0) (dr := Dr.std) (cut := none) (by kernel_rfl) (by kernel_rfl) (by kernel_rfl) run
end l05Is

namespace l05Ones
def R : List AVal → Option (Bool × AVal × List Blk)
  | [.int .i64 k] => some (decide (0 ≤ k ∧ k ≤ 1000), .own 0 0 k.toNat 0 1, [⟨.typ (.ints .i64 (List.replicate k.toNat 1)), 0⟩])
  | _ => none
def hd : Nat → Head := fun _ => ⟨[0, 3], some 1⟩
noncomputable def L (f n : Nat) (s : State) := loopAt Try.prog (orc []) hd Dr.std 0 f (bodyOf Try.f63) 0 [true, true, false] (retK Try.prog [2] 0 (some 1)) n s
theorem start (k : Int) (f : Nat) :
  runFn Try.prog (orc []) hd Dr.std (some 1) f (bodyOf Try.f63) 13 [2] [.int .i64 k] []
  = (L f f (mkS (13 : Nat) [((0 : Nat), AVal.int IntKind.i64 k), ((3 : Nat), AVal.own (0 : Nat) (0 : Nat) (0 : Nat) (0 : Nat) (1 : Nat))] [{ c := BC.typ (Cont.ints IntKind.i64 (List.replicate (0 : Nat) (0 : Int))), ver := (0 : Nat) }])) := by kernel_rfl
theorem round (xs : List Int) (k : Int) (f n : Nat) :
  L f (n + 1) (mkS 13 [(0, .int .i64 k), (3, .own 0 0 xs.length 0 1)] [⟨.typ (.ints .i64 xs), 0⟩])
  = (bif decide ((0 : Int) < k) then bif (1 : Nat) == (1 : Nat) && (1 : Nat) == (1 : Nat) && (true && (true && true) && (true && true && (decide (xs.length + (1 : Nat) ≤ (4611686018427387904 : Nat)) && decide ((xs.length + (1 : Nat)) * (8 : Nat) ≤ (140737488355328 : Nat))))) then L f n (mkS (13 : Nat) [((0 : Nat), AVal.int IntKind.i64 (IntKind.i64.wrap (k - (1 : Int)))), ((3 : Nat), AVal.own (0 : Nat) (0 : Nat) (xs.length + (1 : Nat)) (0 : Nat) (1 : Nat))] [{ c := BC.typ (Cont.ints IntKind.i64 (List.take xs.length xs ++ List.take (1 : Nat) (List.drop (0 : Nat) ((List.replicate (1 : Nat) (0 : Int)).set (0 : Nat) (1 : Int))))), ver := (0 : Nat) }]) else none else some (AVal.own (0 : Nat) (0 : Nat) xs.length (0 : Nat) (1 : Nat), [{ c := BC.typ (Cont.ints IntKind.i64 xs), ver := (0 : Nat) }])) := by kernel_rfl
theorem loop (f : Nat) : ∀ (d n : Nat) (xs : List Int), xs.length + d ≤ 1000 → d < n →
    L f n (mkS 13 [(0, .int .i64 ((d : Nat) : Int)), (3, .own 0 0 xs.length 0 1)] [⟨.typ (.ints .i64 xs), 0⟩]) = some (.own 0 0 (xs ++ List.replicate d 1).length 0 1, [⟨.typ (.ints .i64 (xs ++ List.replicate d 1)), 0⟩]) := by
  intro d
  induction d with
  | zero =>
    intro n xs hx hn
    obtain ⟨n, rfl⟩ : ∃ k, n = k + 1 := ⟨n - 1, by omega⟩
    rw [round]
    simp
  | succ d ih =>
    intro n xs hx hn
    obtain ⟨n, rfl⟩ : ∃ k, n = k + 1 := ⟨n - 1, by omega⟩
    have hih := ih n (xs ++ [1]) (by simp; omega) (by omega)
    have e : xs ++ [1] ++ List.replicate d 1 = xs ++ List.replicate (d + 1) 1 := by simp [List.replicate_succ]
    rw [e] at hih
    have h1 : (0 : Int) < ((d + 1 : Nat) : Int) := by omega
    have k0 : xs.length + 1 ≤ 4611686018427387904 := by omega
    have k1 : (xs.length + 1) * 8 ≤ 140737488355328 := by omega
    have w : IntKind.i64.wrap (((d + 1 : Nat) : Int) - 1) = (d : Int) := by rw [IntWalk.i64_in _ (by omega)]; omega
    have one : (List.replicate 1 (0 : Int)).set 0 1 = [1] := rfl
    rw [← hih, round]
    simp -implicitDefEqProofs only [h1, k0, k1, w, one, List.drop_zero, List.take_length, List.length_append, List.length_singleton, List.take_succ_cons, List.take_zero, Nat.reduceBEq, Int.toNat_natCast, and_self, decide_true, decide_false, Bool.and_self, Bool.or_self, Bool.and_true, Bool.true_and, Bool.and_false, Bool.false_and, Bool.or_true, Bool.true_or, Bool.or_false, Bool.false_or, Bool.not_true, Bool.not_false, cond_true, cond_false]
theorem run : ∀ args v new, R args = some (true, v, new) → ∃ fuel, runFn Try.prog (orc []) hd Dr.std (some 1) fuel (bodyOf Try.f63) 13 [2] args [] = some (v, new) := by
  intro args v new h
  unfold R at h
  split at h
  · rename_i k
    simp only [Option.some.injEq, Prod.mk.injEq, decide_eq_true_eq] at h
    obtain ⟨⟨h1, h2⟩, rfl, rfl⟩ := h
    obtain ⟨d, rfl⟩ : ∃ d : Nat, k = (d : Int) := ⟨k.toNat, by omega⟩
    obtain ⟨F, hF⟩ : ∃ F : Nat, F = d + 1 := ⟨_, rfl⟩
    refine ⟨F, ?_⟩
    rw [start]
    have hl := loop F d F [] (by simp; omega) (by omega)
    simpa using hl
  · cases h
theorem ok : EntOk Try.prog ⟨63, R⟩ :=
  ent_okA mixed (A := (orc [])) (orc_ok (by simp)) Try.func63 (by kernel_rfl) (by kernel_rfl) (n := 13) (ts := [2]) (hd := hd) (dr := Dr.std) (cut := (some 1)) (by kernel_rfl) (by kernel_rfl) (by kernel_rfl) run
end l05Ones

namespace bMul64
def R : List AVal → Option (Bool × AVal × List Blk)
  | [.int .u64 a, .int .u64 y] => some (decide (a = 1 ∧ 1 ≤ y ∧ y ≤ 8), .tup [.int .u64 0, .int .u64 y], [])
  | _ => none
theorem run : ∀ args v new, R args = some (true, v, new) → ∃ fuel, runFn Try.prog (orc []) hd0 Dr.std none fuel (bodyOf Try.f94) 51 [4, 5] args [] = some (v, new) := by
  intro args v new h
  unfold R at h
  split at h
  · rename_i a y
    simp only [Option.some.injEq, Prod.mk.injEq, decide_eq_true_eq] at h
    obtain ⟨⟨rfl, h1, h2⟩, rfl, rfl⟩ := h
    have hc : y = 1 ∨ y = 2 ∨ y = 3 ∨ y = 4 ∨ y = 5 ∨ y = 6 ∨ y = 7 ∨ y = 8 := by omega
    rcases hc with rfl | rfl | rfl | rfl | rfl | rfl | rfl | rfl <;> exact ⟨0, by kernel_rfl⟩
  · cases h
theorem ok : EntOk Try.prog ⟨94, R⟩ :=
  ent_okA mixed (A := (orc [])) (orc_ok (by simp)) Try.func94 (by kernel_rfl) (by kernel_rfl) (n := 51) (ts := [4, 5]) (hd := hd0) (dr := Dr.std) (cut := none) (by kernel_rfl) (by kernel_rfl) (by kernel_rfl) run
end bMul64

namespace bMul
def R : List AVal → Option (Bool × AVal × List Blk)
  | [.int .u64 a, .int .u64 y] => some (decide (a = 1 ∧ 1 ≤ y ∧ y ≤ 8), .tup [.int .u64 0, .int .u64 y], [])
  | _ => none
theorem run : ∀ args v new, R args = some (true, v, new) → ∃ fuel, runFn Try.prog (orc [⟨94, bMul64.R⟩]) hd0 Dr.std none fuel (bodyOf Try.f92) 30 [4, 5] args [] = some (v, new) := by
  intro args v new h
  unfold R at h
  split at h
  · rename_i a y
    simp only [Option.some.injEq, Prod.mk.injEq, decide_eq_true_eq] at h
    obtain ⟨⟨rfl, h1, h2⟩, rfl, rfl⟩ := h
    have hc : y = 1 ∨ y = 2 ∨ y = 3 ∨ y = 4 ∨ y = 5 ∨ y = 6 ∨ y = 7 ∨ y = 8 := by omega
    rcases hc with rfl | rfl | rfl | rfl | rfl | rfl | rfl | rfl <;> exact ⟨0, by kernel_rfl⟩
  · cases h
theorem ok : EntOk Try.prog ⟨92, R⟩ :=
  ent_okA mixed (A := (orc [⟨94, bMul64.R⟩])) (orc_ok (by simp only [List.mem_cons, List.not_mem_nil, or_false, forall_eq_or_imp, forall_eq]; exact bMul64.ok)) Try.func92 (by kernel_rfl) (by kernel_rfl) (n := 30) (ts := [4, 5]) (hd := hd0) (dr := Dr.std) (cut := none) (by kernel_rfl) (by kernel_rfl) (by kernel_rfl) run
end bMul

namespace slRepeat
def R : List AVal → Option (Bool × AVal × List Blk)
  | [.ro (.ints .i64 xs) m 1, .int .i64 k] => some (decide (m = 1 ∧ xs.length = 1 ∧ 1 ≤ k ∧ k ≤ 8), .own 0 0 k.toNat 0 1, [⟨.typ (.ints .i64 (List.replicate k.toNat (gz xs 0))), 0⟩])
  | _ => none
def hd : Nat → Head := fun _ => ⟨[7, 8], some 1⟩
theorem run : ∀ args v new, R args = some (true, v, new) → ∃ fuel, runFn Try.prog (orc [⟨92, bMul.R⟩]) hd Dr.std (some 1) fuel (bodyOf Try.f86) 48 [4] args [] = some (v, new) := by
  intro args v new h
  unfold R at h
  split at h
  · rename_i xs m k
    simp only [Option.some.injEq, Prod.mk.injEq, decide_eq_true_eq] at h
    obtain ⟨⟨rfl, hx, h1, h2⟩, rfl, rfl⟩ := h
    obtain ⟨c, rfl⟩ := List.length_eq_one_iff.1 hx
    have hc : k = 1 ∨ k = 2 ∨ k = 3 ∨ k = 4 ∨ k = 5 ∨ k = 6 ∨ k = 7 ∨ k = 8 := by omega
    rcases hc with rfl | rfl | rfl | rfl | rfl | rfl | rfl | rfl <;> exact ⟨10, by kernel_rfl⟩
  · cases h
theorem ok : EntOk Try.prog ⟨86, R⟩ :=
  ent_okA mixed (A := (orc [⟨92, bMul.R⟩])) (orc_ok (by simp only [List.mem_cons, List.not_mem_nil, or_false, forall_eq_or_imp, forall_eq]; exact bMul.ok)) Try.func86 (by kernel_rfl) (by kernel_rfl) (n := 48) (ts := [4]) (hd := hd) (dr := Dr.std) (cut := (some 1)) (by kernel_rfl) (by kernel_rfl) (by kernel_rfl) run
end slRepeat

namespace iNone
def R : List AVal → Option (Bool × AVal × List Blk)
  | [.int .i64 k] => some (decide (1 ≤ k ∧ k ≤ 8), .own 0 0 k.toNat 0 1, [⟨.typ (.ints .i64 (List.replicate k.toNat (-1))), 0⟩])
  | _ => none
theorem run : ∀ args v new, R args = some (true, v, new) → ∃ fuel, regc [1] (runFn Try.prog (orc [⟨86, slRepeat.R⟩]) hd0 Dr.std none fuel (bodyOf Try.f80) 6 [2] args []) = some (v, new) := by
  intro args v new h
  unfold R at h
  split at h
  · rename_i k
    simp only [Option.some.injEq, Prod.mk.injEq, decide_eq_true_eq] at h
    obtain ⟨⟨h1, h2⟩, rfl, rfl⟩ := h
    have hc : k = 1 ∨ k = 2 ∨ k = 3 ∨ k = 4 ∨ k = 5 ∨ k = 6 ∨ k = 7 ∨ k = 8 := by omega
    rcases hc with rfl | rfl | rfl | rfl | rfl | rfl | rfl | rfl <;> exact ⟨0, by kernel_rfl⟩
  · cases h
theorem ok : EntOk Try.prog ⟨80, R⟩ :=
  ent_okAG (ks := [1]) mixed (A := (orc [⟨86, slRepeat.R⟩])) (orc_ok (by simp only [List.mem_cons, List.not_mem_nil, or_false, forall_eq_or_imp, forall_eq]; exact slRepeat.ok)) Try.func80 (by kernel_rfl) (by kernel_rfl) (n := 6) (ts := [2]) (hd := hd0) (dr := Dr.std) (cut := none) (by kernel_rfl) (by kernel_rfl) (by kernel_rfl) run
end iNone

namespace iOnes
def R : List AVal → Option (Bool × AVal × List Blk)
  | [.agg [.ro (.rows .i64 ls) m 1, .ro (.rows .i64 rs) q 1]] => some (decide (1 ≤ m ∧ m ≤ 8), .own 0 0 m 0 1, [⟨.typ (.ints .i64 (List.replicate m 1)), 0⟩])
  | _ => none
theorem run : ∀ args v new, R args = some (true, v, new) → ∃ fuel, regc [2] (runFn Try.prog (orc [⟨81, iCount.R⟩, ⟨86, slRepeat.R⟩]) hd0 Dr.std none fuel (bodyOf Try.f66) 7 [2] args []) = some (v, new) := by
  intro args v new h
  unfold R at h
  split at h
  · rename_i ls m rs q
    simp only [Option.some.injEq, Prod.mk.injEq, decide_eq_true_eq] at h
    obtain ⟨⟨h1, h2⟩, rfl, rfl⟩ := h
    have hc : m = 1 ∨ m = 2 ∨ m = 3 ∨ m = 4 ∨ m = 5 ∨ m = 6 ∨ m = 7 ∨ m = 8 := by omega
    rcases hc with rfl | rfl | rfl | rfl | rfl | rfl | rfl | rfl <;> exact ⟨0, by kernel_rfl⟩
  · cases h
theorem ok : EntOk Try.prog ⟨66, R⟩ :=
  ent_okAG (ks := [2]) mixed (A := (orc [⟨81, iCount.R⟩, ⟨86, slRepeat.R⟩])) (orc_ok (by simp only [List.mem_cons, List.not_mem_nil, or_false, forall_eq_or_imp, forall_eq]; exact ⟨iCount.ok, slRepeat.ok⟩)) Try.func66 (by kernel_rfl) (by kernel_rfl) (n := 7) (ts := [2]) (hd := hd0) (dr := Dr.std) (cut := none) (by kernel_rfl) (by kernel_rfl) (by kernel_rfl) run
end iOnes


namespace ask
/-- One who has nobody, and has not asked all. -/
def fp.sp (ls : List (List Int)) (mt ak : List Int) (x : Int) : Bool := decide (gz mt x.toNat < 0) && decide (gz ak x.toNat < ((gr ls x.toNat).length : Int))
def fi.sv (ls : List (List Int)) (mt ak : List Int) : Int := fidx.sq (fp.sp ls mt ak) (cq.sv ls.length) 0
/-- How many have one. -/
def hc.go (b : Int) : List Int → Int → Int
  | [], c => c
  | x :: r, c => hc.go b r (bif decide (x = b) then c + 1 else c)
def hc.sv (b : Int) (mt : List Int) : Int := hc.go b mt 0
/-- The least dear one of those who have one, by the reference and by the program. -/
def wo.go (row : List Int) (b : Int) : List Int → Nat → Int → Int
  | [], _, w => w
  | x :: r, i, w => wo.go row b r (i + 1) (bif decide (x = b) then (bif decide (pl.sv w row < pl.sv (i : Int) row) then (i : Int) else w) else w)
def le.go (row : List Int) (b : Int) : List Int → Nat → Int → Int
  | [], _, w => w
  | x :: r, i, w => le.go row b r (i + 1) (bif decide (x = b) then (bif (decide (w < 0) || decide (pl.sv w row < pl.sv (i : Int) row)) then (i : Int) else w) else w)
def wo.sv (row : List Int) (b : Int) (mt : List Int) (at_ : Int) : Int := wo.go row b mt 0 at_
def bw.sv (ls : List (List Int)) (ak : List Int) (i : Int) : Int := gz (gr ls i.toNat) (gz ak i.toNat).toNat
def nk.sv (ak : List Int) (i : Int) : List Int := ak.set i.toNat (gz ak i.toNat + 1)
def m2.sv (rs : List (List Int)) (ss mt : List Int) (b i : Int) : List Int :=
  bif (gr rs b.toNat).any (has.sp i) then
    (bif decide (gz ss b.toNat < hc.sv b (mt.set i.toNat b)) then (mt.set i.toNat b).set (wo.sv (gr rs b.toNat) b (mt.set i.toNat b) i).toNat (-1) else mt.set i.toNat b)
  else mt
def go (ls rs : List (List Int)) (ss : List Int) : Nat → List Int → List Int → Int → List Int × Int
  | 0, mt, _, c => (mt, c)
  | d + 1, mt, ak, c => bif decide (fi.sv ls mt ak < 0) then (mt, c) else go ls rs ss d (m2.sv rs ss mt (bw.sv ls ak (fi.sv ls mt ak)) (fi.sv ls mt ak)) (nk.sv ak (fi.sv ls mt ak)) (c + 1)
def om.sv (ls rs : List (List Int)) (ss : List Int) : List Int := (go ls rs ss (tot.sv ls + 1) (List.replicate ls.length (-1)) (List.replicate ls.length 0) 0).1
def ct.sv (ls rs : List (List Int)) (ss : List Int) : Int := (go ls rs ss (tot.sv ls + 1) (List.replicate ls.length (-1)) (List.replicate ls.length 0) 0).2

/-- What holds all the while. -/
structure Inv (ls rs : List (List Int)) (mt ak : List Int) : Prop where
  n8 : ls.length ≤ 8
  nr : rs.length = ls.length
  row : ∀ j, j < ls.length → ∀ k, k < (gr ls j).length → 0 ≤ gz (gr ls j) k ∧ gz (gr ls j) k < (ls.length : Int)
  lm : mt.length = ls.length
  la : ak.length = ls.length
  mb : ∀ j, j < ls.length → -1 ≤ gz mt j ∧ gz mt j < (ls.length : Int)
  ab : ∀ j, j < ls.length → 0 ≤ gz ak j ∧ gz ak j ≤ ((gr ls j).length : Int)
  tk : ∀ j, j < ls.length → 0 ≤ gz mt j → (gr rs (gz mt j).toNat).any (has.sp (j : Int)) = true

theorem fidx_cq (p : Int → Bool) : ∀ (d i n : Nat), i + d = n → (fidx.sq p ((cq.sv n).drop i) i = -1 ∧ ∀ j, i ≤ j → j < n → p (j : Int) = false) ∨ ∃ j : Nat, i ≤ j ∧ j < n ∧ fidx.sq p ((cq.sv n).drop i) i = (j : Int) ∧ p (j : Int) = true := by
  intro d
  induction d with
  | zero =>
    intro i n h
    left
    rw [List.drop_of_length_le (by rw [cq.sv_length]; omega)]
    exact ⟨rfl, fun j h1 h2 => by omega⟩
  | succ d ih =>
    intro i n h
    rw [cq.sv_drop (by omega)]
    simp only [fidx.sq]
    rcases Bool.eq_false_or_eq_true (p (i : Int)) with c | c
    · right
      refine ⟨i, Nat.le_refl _, by omega, ?_, c⟩
      rw [c]; rfl
    · rw [c, cond_false]
      rcases ih (i + 1) n (by omega) with ⟨h1, h2⟩ | ⟨j, h1, h2, h3, h4⟩
      · left
        refine ⟨h1, fun j g1 g2 => ?_⟩
        rcases Nat.eq_or_lt_of_le g1 with rfl | g
        · exact c
        · exact h2 j g g2
      · right; exact ⟨j, by omega, h2, h3, h4⟩
theorem fi_cases (ls : List (List Int)) (mt ak : List Int) : fi.sv ls mt ak < 0 ∨ ∃ j : Nat, j < ls.length ∧ fi.sv ls mt ak = (j : Int) ∧ gz mt j < 0 ∧ gz ak j < ((gr ls j).length : Int) := by
  unfold fi.sv
  rcases fidx_cq (fp.sp ls mt ak) ls.length 0 ls.length (by omega) with ⟨h, _⟩ | ⟨j, _, h2, h3, h4⟩
  · left; rw [List.drop_zero] at h; rw [h]; decide
  · right
    rw [List.drop_zero] at h3
    refine ⟨j, h2, h3, ?_⟩
    simpa [fp.sp] using h4

theorem pl_get (v : Int) : ∀ (xs : List Int) (i : Nat), xs.any (has.sp v) = true → xs[pl.go v xs i - i]? = some v := by
  intro xs
  induction xs with
  | nil => intro i h; cases h
  | cons x r ih =>
    intro i h
    simp only [pl.go]
    rcases Bool.eq_false_or_eq_true (has.sp v x) with c | c
    · rw [c, cond_true, Nat.sub_self, List.getElem?_cons_zero]
      have : x = v := by simpa [has.sp] using c
      rw [this]
    · rw [c, cond_false]
      simp only [List.any_cons, c, Bool.false_or] at h
      have h1 := ih (i + 1) h
      have h2 := (pl_go_le v r (i + 1)).1
      have e : pl.go v r (i + 1) - i = (pl.go v r (i + 1) - (i + 1)) + 1 := by omega
      rw [e, List.getElem?_cons_succ]
      exact h1
theorem pl_inj {row : List Int} {a c : Int} (ha : row.any (has.sp a) = true) (hc : row.any (has.sp c) = true) (h : pl.sv a row = pl.sv c row) : a = c := by
  have h1 := pl_get a row 0 ha
  have h2 := pl_get c row 0 hc
  unfold pl.sv at h
  have : pl.go a row 0 = pl.go c row 0 := by omega
  rw [this, h2] at h1
  exact (Option.some.inj h1).symm
theorem wo_spec (row : List Int) (b : Int) : ∀ (xs : List Int) (i : Nat) (w : Int), (wo.go row b xs i w = w ∨ ∃ k : Nat, xs[k]? = some b ∧ wo.go row b xs i w = ((i + k : Nat) : Int)) ∧ pl.sv w row ≤ pl.sv (wo.go row b xs i w) row ∧
    ∀ k : Nat, xs[k]? = some b → pl.sv ((i + k : Nat) : Int) row ≤ pl.sv (wo.go row b xs i w) row := by
  intro xs
  induction xs with
  | nil => intro i w; exact ⟨.inl rfl, Int.le_refl _, fun k h => by simp at h⟩
  | cons x r ih =>
    intro i w
    simp only [wo.go]
    obtain ⟨w2, hw2⟩ : ∃ w2, w2 = (bif decide (x = b) then (bif decide (pl.sv w row < pl.sv (i : Int) row) then (i : Int) else w) else w) := ⟨_, rfl⟩
    rw [← hw2]
    have hcase : (w2 = w ∨ (x = b ∧ w2 = (i : Int))) ∧ pl.sv w row ≤ pl.sv w2 row ∧ (x = b → pl.sv (i : Int) row ≤ pl.sv w2 row) := by
      by_cases c : x = b
      · by_cases c2 : pl.sv w row < pl.sv (i : Int) row
        · simp only [c, c2, decide_true, cond_true] at hw2
          subst hw2; exact ⟨.inr ⟨c, rfl⟩, by omega, fun _ => by omega⟩
        · simp only [c, c2, decide_true, decide_false, cond_true, cond_false] at hw2
          subst hw2; exact ⟨.inl rfl, by omega, fun _ => by omega⟩
      · simp only [c, decide_false, cond_false] at hw2
        subst hw2; exact ⟨.inl rfl, by omega, fun h => absurd h c⟩
    obtain ⟨h1, h2, h3⟩ := hcase
    obtain ⟨g1, g2, g3⟩ := ih (i + 1) w2
    refine ⟨?_, by omega, fun k hk => ?_⟩
    · rcases g1 with g1 | ⟨k, hk, g1⟩
      · rcases h1 with h1 | ⟨hx, h1⟩
        · left; rw [g1, h1]
        · right; exact ⟨0, by simp [hx], by rw [g1, h1]; simp⟩
      · right; exact ⟨k + 1, by simpa using hk, by rw [g1]; congr 1; omega⟩
    · cases k with
      | zero =>
        have hx : x = b := by simpa using hk
        have := h3 hx
        rw [Nat.add_zero]; omega
      | succ k =>
        have := g3 k (by simpa using hk)
        have e : i + (k + 1) = i + 1 + k := by omega
        rw [e]; exact this
theorem le_wo (row : List Int) (b : Int) : ∀ (xs : List Int) (i : Nat) (w : Int), 0 ≤ w → le.go row b xs i w = wo.go row b xs i w := by
  intro xs
  induction xs with
  | nil => intro i w _; rfl
  | cons x r ih =>
    intro i w hw
    simp only [le.go, wo.go]
    have hn : ¬ (w < 0) := by omega
    simp only [hn, decide_false, Bool.false_or]
    refine ih (i + 1) _ ?_
    have : (0 : Int) ≤ (i : Int) := Int.natCast_nonneg _
    by_cases c : x = b
    · by_cases c2 : pl.sv w row < pl.sv (i : Int) row
      · simpa only [c, c2, decide_true, cond_true] using this
      · simpa only [c, c2, decide_true, decide_false, cond_true, cond_false] using hw
    · simpa only [c, decide_false, cond_false] using hw
theorem le_spec (row : List Int) (b : Int) : ∀ (xs : List Int) (i : Nat) (k0 : Nat), xs[k0]? = some b → (∃ k : Nat, xs[k]? = some b ∧ le.go row b xs i (-1) = ((i + k : Nat) : Int)) ∧ ∀ k : Nat, xs[k]? = some b → pl.sv ((i + k : Nat) : Int) row ≤ pl.sv (le.go row b xs i (-1)) row := by
  intro xs
  induction xs with
  | nil => intro i k0 h; simp at h
  | cons x r ih =>
    intro i k0 h0
    simp only [le.go]
    by_cases c : x = b
    · have hneg : ((-1 : Int) < 0) := by decide
      simp only [c, hneg, decide_true, Bool.true_or, cond_true]
      rw [le_wo _ _ _ _ _ (Int.natCast_nonneg _)]
      obtain ⟨g1, g2, g3⟩ := wo_spec row b r (i + 1) (i : Int)
      refine ⟨?_, fun k hk => ?_⟩
      · rcases g1 with g1 | ⟨k, hk, g1⟩
        · exact ⟨0, by simp, by rw [g1]; simp⟩
        · exact ⟨k + 1, by simpa using hk, by rw [g1]; congr 1; omega⟩
      · cases k with
        | zero => rw [Nat.add_zero]; exact g2
        | succ k =>
          have := g3 k (by simpa using hk)
          have e : i + (k + 1) = i + 1 + k := by omega
          rw [e]; exact this
    · simp only [c, decide_false, cond_false]
      cases k0 with
      | zero => exact absurd (by simpa using h0) c
      | succ k0 =>
        obtain ⟨⟨k, hk, g1⟩, g2⟩ := ih (i + 1) k0 (by simpa using h0)
        refine ⟨⟨k + 1, by simpa using hk, by rw [g1]; congr 1; omega⟩, fun k' hk' => ?_⟩
        cases k' with
        | zero => exact absurd (by simpa using hk') c
        | succ k' =>
          have := g2 k' (by simpa using hk')
          have e : i + (k' + 1) = i + 1 + k' := by omega
          rw [e]; exact this
/-- Both find the same one. -/
theorem le_eq {row : List Int} {b : Int} {mt : List Int} {i : Nat} (hi : mt[i]? = some b) (hall : ∀ k : Nat, mt[k]? = some b → row.any (has.sp (k : Int)) = true) : le.go row b mt 0 (-1) = wo.sv row b mt (i : Int) := by
  unfold wo.sv
  obtain ⟨⟨k, hk, e1⟩, g2⟩ := le_spec row b mt 0 i hi
  obtain ⟨h1, h2, h3⟩ := wo_spec row b mt 0 (i : Int)
  rw [Nat.zero_add] at e1
  have hw : ∃ k' : Nat, mt[k']? = some b ∧ wo.go row b mt 0 (i : Int) = (k' : Int) := by
    rcases h1 with h1 | ⟨k', hk', h1⟩
    · exact ⟨i, hi, h1⟩
    · exact ⟨k', hk', by rw [h1, Nat.zero_add]⟩
  obtain ⟨k', hk', e2⟩ := hw
  have a1 := g2 k' hk'
  have a2 := h3 k hk
  rw [Nat.zero_add, e1] at a1
  rw [Nat.zero_add, e2] at a2
  rw [e1, e2]
  exact pl_inj (hall k hk) (hall k' hk') (by omega)
theorem hc_go (b : Int) : ∀ (xs : List Int) (c : Int), c ≤ hc.go b xs c ∧ hc.go b xs c ≤ c + (xs.length : Int) := by
  intro xs
  induction xs with
  | nil => intro c; simp [hc.go]
  | cons x r ih =>
    intro c
    simp only [hc.go, List.length_cons]
    by_cases h : x = b
    · simp only [h, decide_true, cond_true]
      have := ih (c + 1); omega
    · simp only [h, decide_false, cond_false]
      have := ih c; omega
theorem gz_get {xs : List Int} {i : Nat} (h : i < xs.length) : xs[i]? = some (gz xs i) := by rw [gz_eq h]; exact List.getElem?_eq_getElem h
theorem gz_set (os : List Int) (k : Nat) (v : Int) (i : Nat) (h : i < os.length) : gz (os.set k v) i = if k = i then v else gz os i := by
  have h' : i < (os.set k v).length := by simpa using h
  rw [gz_eq h', gz_eq h, List.getElem_set]

theorem sum_set : ∀ (xs : List Int) (i : Nat) (v : Int), i < xs.length → (xs.set i v).sum = xs.sum - gz xs i + v := by
  intro xs
  induction xs with
  | nil => intro i v h; simp at h
  | cons x r ih =>
    intro i v h
    cases i with
    | zero => simp [gz]; omega
    | succ i =>
      simp only [List.set_cons_succ, List.sum_cons]
      have := ih i v (by simpa using h)
      have e : gz (x :: r) (i + 1) = gz r i := by simp [gz]
      rw [this, e]; omega
theorem sum_le : ∀ (ak : List Int) (ls : List (List Int)), ak.length = ls.length → (∀ j, j < ls.length → gz ak j ≤ ((gr ls j).length : Int)) → ak.sum ≤ (tot.sv ls : Int) := by
  intro ak
  induction ak with
  | nil => intro ls h _; have : ls = [] := List.eq_nil_of_length_eq_zero (by simpa using h.symm); subst this; simp [tot.sv]
  | cons a r ih =>
    intro ls h hb
    cases ls with
    | nil => simp at h
    | cons l t =>
      have h0 := hb 0 (by simp)
      have := ih t (by simpa using h) (fun j hj => by have := hb (j + 1) (by simpa using hj); simpa [gz, gr] using this)
      have e : (tot.sv (l :: t) : Int) = (l.length : Int) + (tot.sv t : Int) := by simp [tot.sv]
      rw [List.sum_cons, e]
      have h0' : a ≤ (l.length : Int) := by simpa [gz, gr] using h0
      omega

/-- One round keeps all. -/
theorem step {ls rs : List (List Int)} {ss mt ak : List Int} (I : Inv ls rs mt ak) {j : Nat} (hj : j < ls.length) (hm : gz mt j < 0) (ha : gz ak j < ((gr ls j).length : Int)) :
    (0 ≤ bw.sv ls ak (j : Int) ∧ bw.sv ls ak (j : Int) < (ls.length : Int)) ∧ Inv ls rs (m2.sv rs ss mt (bw.sv ls ak (j : Int)) (j : Int)) (nk.sv ak (j : Int)) ∧ (nk.sv ak (j : Int)).sum = ak.sum + 1 ∧
    ((gr rs (bw.sv ls ak (j : Int)).toNat).any (has.sp (j : Int)) = true → (mt.set j (bw.sv ls ak (j : Int)))[j]? = some (bw.sv ls ak (j : Int)) ∧
      ∀ k : Nat, (mt.set j (bw.sv ls ak (j : Int)))[k]? = some (bw.sv ls ak (j : Int)) → (gr rs (bw.sv ls ak (j : Int)).toNat).any (has.sp (k : Int)) = true) := by
  have a0 := (I.ab j hj).1
  have hb : 0 ≤ bw.sv ls ak (j : Int) ∧ bw.sv ls ak (j : Int) < (ls.length : Int) := by
    unfold bw.sv
    rw [Int.toNat_natCast]
    exact I.row j hj _ (by omega)
  obtain ⟨b, hbe⟩ : ∃ b, b = bw.sv ls ak (j : Int) := ⟨_, rfl⟩
  rw [← hbe] at hb ⊢
  have hjm : j < mt.length := by rw [I.lm]; exact hj
  have hja : j < ak.length := by rw [I.la]; exact hj
  have hset : (gr rs b.toNat).any (has.sp (j : Int)) = true → (mt.set j b)[j]? = some b ∧ ∀ k : Nat, (mt.set j b)[k]? = some b → (gr rs b.toNat).any (has.sp (k : Int)) = true := by
    intro ht
    refine ⟨by simp [hjm], fun k hk => ?_⟩
    rw [List.getElem?_set] at hk
    by_cases e : j = k
    · subst e; exact ht
    · rw [if_neg e] at hk
      have hkl : k < mt.length := (List.getElem?_eq_some_iff.1 hk).1
      have hg : gz mt k = b := by rw [gz_eq hkl]; exact (List.getElem?_eq_some_iff.1 hk).2
      have := I.tk k (by rw [← I.lm]; exact hkl) (by rw [hg]; exact hb.1)
      rw [hg] at this; exact this
  refine ⟨hb, ⟨I.n8, I.nr, I.row, ?_, ?_, fun k hk => ?_, fun k hk => ?_, fun k hk h0 => ?_⟩, ?_, hset⟩
  · unfold m2.sv
    rw [Int.toNat_natCast]
    cases (gr rs b.toNat).any (has.sp (j : Int))
    · exact I.lm
    · simp only [cond_true]
      by_cases c : gz ss b.toNat < hc.sv b (mt.set j b)
      · simp only [c, decide_true, cond_true, List.length_set]; exact I.lm
      · simp only [c, decide_false, cond_false, List.length_set]; exact I.lm
  · unfold nk.sv; rw [List.length_set]; exact I.la
  · have hkm : k < mt.length := by rw [I.lm]; exact hk
    have h1 : -1 ≤ gz (mt.set j b) k ∧ gz (mt.set j b) k < (ls.length : Int) := by
      rw [gz_set _ _ _ _ hkm]
      split
      · omega
      · exact I.mb k hk
    unfold m2.sv
    rw [Int.toNat_natCast]
    cases (gr rs b.toNat).any (has.sp (j : Int))
    · exact I.mb k hk
    · simp only [cond_true]
      by_cases c : gz ss b.toNat < hc.sv b (mt.set j b)
      · simp only [c, decide_true, cond_true]
        rw [gz_set _ _ _ _ (by rw [List.length_set]; exact hkm)]
        split
        · omega
        · exact h1
      · simp only [c, decide_false, cond_false]; exact h1
  · unfold nk.sv
    rw [Int.toNat_natCast, gz_set _ _ _ _ (by rw [I.la]; exact hk)]
    split
    · rename_i e; subst e; omega
    · exact I.ab k hk
  · have hkm : k < mt.length := by rw [I.lm]; exact hk
    unfold m2.sv at h0 ⊢
    rw [Int.toNat_natCast] at h0 ⊢
    rcases Bool.eq_false_or_eq_true ((gr rs b.toNat).any (has.sp (j : Int))) with ht | ht
    · simp only [ht, cond_true] at h0 ⊢
      have h1 : 0 ≤ gz (mt.set j b) k → (gr rs (gz (mt.set j b) k).toNat).any (has.sp (k : Int)) = true := by
        intro hg
        rw [gz_set _ _ _ _ hkm] at hg ⊢
        split
        · rename_i e; subst e; exact ht
        · rename_i e; rw [if_neg e] at hg; exact I.tk k hk hg
      by_cases c : gz ss b.toNat < hc.sv b (mt.set j b)
      · simp only [c, decide_true, cond_true] at h0 ⊢
        rw [gz_set _ _ _ _ (by rw [List.length_set]; exact hkm)] at h0 ⊢
        split at h0
        · omega
        · rename_i e; rw [if_neg e]; exact h1 h0
      · simp only [c, decide_false, cond_false] at h0 ⊢; exact h1 h0
    · simp only [ht, cond_false] at h0 ⊢
      exact I.tk k hk h0
  · unfold nk.sv
    rw [Int.toNat_natCast, sum_set _ _ _ hja]; omega
/-- Whom each one has is in range. -/
theorem wo_in {row : List Int} {b : Int} {mt : List Int} {j : Nat} (hj : j < mt.length) : 0 ≤ wo.sv row b mt (j : Int) ∧ wo.sv row b mt (j : Int) < (mt.length : Int) := by
  unfold wo.sv
  rcases (wo_spec row b mt 0 (j : Int)).1 with h | ⟨k, hk, h⟩
  · rw [h]; omega
  · rw [h]
    have := (List.getElem?_eq_some_iff.1 hk).1
    omega
theorem uniq_rows {n : Int} : ∀ {xs pre : List Int}, uniq.sq n pre xs = true → ∀ k, k < xs.length → 0 ≤ gz xs k ∧ gz xs k < n := by
  intro xs
  induction xs with
  | nil => intro pre h k hk; simp at hk
  | cons x r ih =>
    intro pre h k hk
    simp only [uniq.sq, Bool.and_eq_true, decide_eq_true_eq] at h
    cases k with
    | zero => simp only [gz, List.getD_cons_zero]; omega
    | succ k =>
      have := ih h.2 k (by simpa using hk)
      simpa [gz] using this
theorem inv0 {ls rs : List (List Int)} (h : vw.sp ls rs = true) : Inv ls rs (List.replicate ls.length (-1)) (List.replicate ls.length 0) ∧ 1 ≤ ls.length := by
  unfold vw.sp at h
  simp only [Bool.and_eq_true, decide_eq_true_eq] at h
  obtain ⟨h1, ⟨h2, h3, h4⟩, h5, h6, h7⟩ := h
  have g : ∀ (v : Int) j, j < ls.length → gz (List.replicate ls.length v) j = v := by
    intro v j hj
    rw [gz_eq (by simpa using hj)]; simp
  refine ⟨⟨by omega, by omega, fun j hj k hk => ?_, by simp, by simp, fun j hj => ?_, fun j hj => ?_, fun j hj h0 => ?_⟩, by omega⟩
  · unfold lo.sp at h2
    rw [List.all_eq_true] at h2
    have := h2 (gr ls j) (by rw [gr_eq hj]; exact List.getElem_mem hj)
    exact uniq_rows this k hk
  · rw [g _ j hj]; omega
  · rw [g _ j hj]; omega
  · rw [g _ j hj] at h0; omega
end ask


namespace ask1
def R : List AVal → Option (Bool × AVal × List Blk)
  | [.int .i64 i, .rom [.ro (.ints .i64 mt) mm 1] 0, .rom [.ro (.ints .i64 ak) mk 1] 0, .rom [.ro (.rows .i64 ls) ml 1, .ro (.rows .i64 rs) mr 1] 0] => some (decide (mm = ml ∧ mk = ml ∧ ml = ls.length ∧ mt.length = ml ∧ ak.length = ml ∧ 0 ≤ i ∧ i < (ls.length : Int)), .bool (ask.fp.sp ls mt ak i), [])
  | _ => none
theorem go (mt ak : List Int) (ls rs : List (List Int)) (mm mk ml mr : Nat) (i : Int) :
  runFn Try.prog (orc []) hd0 Dr.std (some 0) 0 (bodyOf Try.f84) 24 [5] [.int .i64 i, .rom [.ro (.ints .i64 mt) mm 1] 0, .rom [.ro (.ints .i64 ak) mk 1] 0, .rom [.ro (.rows .i64 ls) ml 1, .ro (.rows .i64 rs) mr 1] 0] []
  = (bif true && (decide ((0 : Int) ≤ i) && decide (i < (↑mm : Int))) then bif decide (i.toNat < mt.length) then bif decide (gz mt i.toNat < (0 : Int)) then bif true && (decide ((0 : Int) ≤ i) && decide (i < (↑mk : Int))) then bif decide (i.toNat < ak.length) then bif true && (decide ((0 : Int) ≤ i) && decide (i < (↑ml : Int))) then bif decide (i.toNat < ls.length) then some (AVal.bool (decide (gz ak i.toNat < (↑(gr ls i.toNat).length : Int))), []) else none else none else none else none else some (AVal.bool false, []) else none else none) := by kernel_rfl
theorem run : ∀ args v new, R args = some (true, v, new) → ∃ fuel, runFn Try.prog (orc []) hd0 Dr.std (some 0) fuel (bodyOf Try.f84) 24 [5] args [] = some (v, new) := by
  intro args v new h
  unfold R at h
  split at h
  · rename_i i mt mm ak mk ls ml rs mr
    simp only [Option.some.injEq, Prod.mk.injEq, decide_eq_true_eq] at h
    obtain ⟨⟨rfl, rfl, rfl, h1, h2, h3, h4⟩, rfl, rfl⟩ := h
    obtain ⟨i, rfl⟩ : ∃ q : Nat, i = q := ⟨i.toNat, by omega⟩
    have i1 : i < mt.length := by omega
    have i2 : i < ak.length := by omega
    have i3 : i < ls.length := by omega
    refine ⟨0, ?_⟩
    rw [go]
    simp -implicitDefEqProofs only [h3, h4, i1, i2, i3, ask.fp.sp, Int.toNat_natCast, and_self, decide_true, decide_false, Bool.and_self, Bool.or_self, Bool.and_true, Bool.true_and, Bool.and_false, Bool.false_and, Bool.or_true, Bool.true_or, Bool.or_false, Bool.false_or, Bool.not_true, Bool.not_false, cond_true, cond_false]
    cases decide (gz mt i < 0) <;> rfl
  · cases h
theorem ok : EntOk Try.prog ⟨84, R⟩ :=
  ent_okA mixed (A := (orc [])) (orc_ok (by simp)) Try.func84 (by kernel_rfl) (by kernel_rfl) (n := 24) (ts := [5]) (hd := hd0) (dr := Dr.std) (cut := (some 0)) (by kernel_rfl) (by kernel_rfl) (by kernel_rfl) run
end ask1

theorem sv_get_cq {m i : Nat} (h : i < m) : gz (cq.sv m) i = (i : Int) := by
  have h2 : i < (cq.sv m).length := by rw [cq.sv_length]; exact h
  have h3 := cq.sv_drop h
  rw [gz_eq h2]
  rw [List.drop_eq_getElem_cons h2] at h3
  exact (List.cons.inj h3).1
namespace askIdx
def R : List AVal → Option (Bool × AVal × List Blk)
  | [.ro (.ints .i64 zs) m 1, .fn ff [.rom [.ro (.ints .i64 mt) mm 1] 0, .rom [.ro (.ints .i64 ak) mk 1] 0, .rom [.ro (.rows .i64 ls) ml 1, .ro (.rows .i64 rs) mr 1] 0]] => some (decide (mm = ml ∧ mk = ml ∧ ml = ls.length ∧ mt.length = ml ∧ ak.length = ml ∧ m = ml ∧ m ≤ 1000 ∧ zs = cq.sv m ∧ ff = 84), .int .i64 (ask.fi.sv ls mt ak), [])
  | _ => none
def hd : Nat → Head := fun _ => ⟨[0, 1, 4, 7, 8], none⟩
noncomputable def L (f n : Nat) (s : State) := loopAt Try.prog (orc [⟨84, ask1.R⟩]) hd Dr.std 0 f (bodyOf Try.f82) 0 [true, false, true] (retK Try.prog [4] 0 none) n s
theorem start (zs : List Int) (m : Nat) (mt ak : List Int) (ls rs : List (List Int)) (mm mk ml mr : Nat) (f : Nat) :
  runFn Try.prog (orc [⟨84, ask1.R⟩]) hd Dr.std none f (bodyOf Try.f82) 19 [4] [.ro (.ints .i64 zs) m 1, .fn 84 [.rom [.ro (.ints .i64 mt) mm 1] 0, .rom [.ro (.ints .i64 ak) mk 1] 0, .rom [.ro (.rows .i64 ls) ml 1, .ro (.rows .i64 rs) mr 1] 0]] []
  = (L f f (mkS (19 : Nat) [((0 : Nat), AVal.ro (Cont.ints IntKind.i64 zs) m (1 : Nat)), ((1 : Nat), AVal.fn (84 : Nat) [AVal.rom [AVal.ro (Cont.ints IntKind.i64 mt) mm (1 : Nat)] (0 : Nat), AVal.rom [AVal.ro (Cont.ints IntKind.i64 ak) mk (1 : Nat)] (0 : Nat), AVal.rom [AVal.ro (Cont.rows IntKind.i64 ls) ml (1 : Nat), AVal.ro (Cont.rows IntKind.i64 rs) mr (1 : Nat)] (0 : Nat)]), ((4 : Nat), AVal.int IntKind.i64 (0 : Int)), ((7 : Nat), AVal.int IntKind.i64 (↑m : Int)), ((8 : Nat), AVal.int IntKind.i64 (0 : Int))] [])) := by kernel_rfl
theorem round (zs : List Int) (m i : Nat) (mt ak : List Int) (ls rs : List (List Int)) (mm mk ml mr : Nat) (f n : Nat) :
  L f (n + 1) (mkS 19 [(0, .ro (.ints .i64 zs) m 1), (1, .fn 84 [.rom [.ro (.ints .i64 mt) mm 1] 0, .rom [.ro (.ints .i64 ak) mk 1] 0, .rom [.ro (.rows .i64 ls) ml 1, .ro (.rows .i64 rs) mr 1] 0]), (4, .int .i64 0), (7, .int .i64 m), (8, .int .i64 i)] [])
  = (bif decide ((↑i : Int) < (↑m : Int)) then bif true && (decide ((0 : Int) ≤ (↑i : Int)) && decide ((↑i : Int) < (↑m : Int))) then bif decide ((↑i : Int).toNat < zs.length) then bif decide (mm = ml ∧ mk = ml ∧ ml = ls.length ∧ mt.length = ml ∧ ak.length = ml ∧ (0 : Int) ≤ gz zs (↑i : Int).toNat ∧ gz zs (↑i : Int).toNat < (↑ls.length : Int)) && (true && (true && true && (true && true && (true && (true && true) && true))) || true && true) then bif ask.fp.sp ls mt ak (gz zs (↑i : Int).toNat) then some (AVal.int IntKind.i64 (↑i : Int), []) else L f n (mkS (19 : Nat) [((0 : Nat), AVal.ro (Cont.ints IntKind.i64 zs) m (1 : Nat)), ((1 : Nat), AVal.fn (84 : Nat) [AVal.rom [AVal.ro (Cont.ints IntKind.i64 mt) mm (1 : Nat)] (0 : Nat), AVal.rom [AVal.ro (Cont.ints IntKind.i64 ak) mk (1 : Nat)] (0 : Nat), AVal.rom [AVal.ro (Cont.rows IntKind.i64 ls) ml (1 : Nat), AVal.ro (Cont.rows IntKind.i64 rs) mr (1 : Nat)] (0 : Nat)]), ((4 : Nat), AVal.int IntKind.i64 (0 : Int)), ((7 : Nat), AVal.int IntKind.i64 (↑m : Int)), ((8 : Nat), AVal.int IntKind.i64 (IntKind.i64.wrap ((↑i : Int) + (1 : Int))))] []) else none else none else none else some (AVal.int IntKind.i64 (-1 : Int), [])) := by kernel_rfl
theorem loop (m : Nat) (mt ak : List Int) (ls rs : List (List Int)) (mm mk ml mr : Nat) (f : Nat) (hm : m ≤ 1000) (q : mm = ml ∧ mk = ml ∧ ml = ls.length ∧ mt.length = ml ∧ ak.length = ml) (hml : m = ml) : ∀ (d i n : Nat), i + d = m → d < n →
    L f n (mkS 19 [(0, .ro (.ints .i64 (cq.sv m)) m 1), (1, .fn 84 [.rom [.ro (.ints .i64 mt) mm 1] 0, .rom [.ro (.ints .i64 ak) mk 1] 0, .rom [.ro (.rows .i64 ls) ml 1, .ro (.rows .i64 rs) mr 1] 0]), (4, .int .i64 0), (7, .int .i64 m), (8, .int .i64 i)] []) = some (.int .i64 (fidx.sq (ask.fp.sp ls mt ak) ((cq.sv m).drop i) i), []) := by
  obtain ⟨rfl, rfl, rfl, q1, q2⟩ := q
  intro d
  induction d with
  | zero =>
    intro i n hi hn
    obtain ⟨n, rfl⟩ : ∃ k, n = k + 1 := ⟨n - 1, by omega⟩
    obtain rfl : i = m := by omega
    rw [round]
    have e : (cq.sv i).drop i = [] := List.drop_of_length_le (by rw [cq.sv_length]; omega)
    simp -implicitDefEqProofs only [e, fidx.sq, Int.lt_irrefl, and_self, decide_true, decide_false, Bool.and_self, Bool.or_self, Bool.and_true, Bool.true_and, Bool.and_false, Bool.false_and, Bool.or_true, Bool.true_or, Bool.or_false, Bool.false_or, Bool.not_true, Bool.not_false, cond_true, cond_false]
  | succ d ih =>
    intro i n hi hn
    obtain ⟨n, rfl⟩ : ∃ k, n = k + 1 := ⟨n - 1, by omega⟩
    have h1 : i < m := by omega
    have h4 : (0 : Int) ≤ (i : Int) := Int.natCast_nonneg _
    have h5 : (i : Int) < (m : Int) := by omega
    have h6 : (i : Int) < (ls.length : Int) := by omega
    have h2 : i < (cq.sv m).length := by rw [cq.sv_length]; exact h1
    have hg : gz (cq.sv m) i = (i : Int) := sv_get_cq h1
    have hr0 := ih (i + 1) n (by omega) (by omega)
    rw [round, cq.sv_drop h1]
    simp -implicitDefEqProofs only [fidx.sq, h4, h5, h2, h6, hg, q1, q2, Int.toNat_natCast, wrap_nat i (by omega), and_self, eq_self, Nat.le_refl, and_self, decide_true, decide_false, Bool.and_self, Bool.or_self, Bool.and_true, Bool.true_and, Bool.and_false, Bool.false_and, Bool.or_true, Bool.true_or, Bool.or_false, Bool.false_or, Bool.not_true, Bool.not_false, cond_true, cond_false]
    rw [hr0]
    cases ask.fp.sp ls mt ak (i : Int) <;> rfl
theorem run : ∀ args v new, R args = some (true, v, new) → ∃ fuel, runFn Try.prog (orc [⟨84, ask1.R⟩]) hd Dr.std none fuel (bodyOf Try.f82) 19 [4] args [] = some (v, new) := by
  intro args v new h
  unfold R at h
  split at h
  · rename_i zs m ff mt mm ak mk ls ml rs mr
    simp only [Option.some.injEq, Prod.mk.injEq, decide_eq_true_eq] at h
    obtain ⟨⟨q1, q2, q3, q4, q5, q6, q7, rfl, rfl⟩, rfl, rfl⟩ := h
    refine ⟨m + 1, ?_⟩
    rw [start]
    have hl := loop m mt ak ls rs mm mk ml mr (m + 1) q7 ⟨q1, q2, q3, q4, q5⟩ q6 m 0 (m + 1) (by omega) (by omega)
    rw [List.drop_zero] at hl
    have e : cq.sv ls.length = cq.sv m := by rw [← q3, ← q6]
    unfold ask.fi.sv
    rw [e]
    exact hl
  · cases h
theorem ok : EntOk Try.prog ⟨82, R⟩ :=
  ent_okA mixed (A := (orc [⟨84, ask1.R⟩])) (orc_ok (by simp only [List.mem_cons, List.not_mem_nil, or_false, forall_eq_or_imp, forall_eq]; exact ask1.ok)) Try.func82 (by kernel_rfl) (by kernel_rfl) (n := 19) (ts := [4]) (hd := hd) (dr := Dr.std) (cut := none) (by kernel_rfl) (by kernel_rfl) (by kernel_rfl) run
end askIdx

namespace iAsk
def hd : Nat → Head := fun i => bif eqN i 0 then ⟨[1, 2, 4, 5, 6, 7, 8], some 5⟩ else ⟨[1, 2, 4, 5, 6, 7, 8, 10, 11, 12, 61, 62, 63], some 5⟩
noncomputable def L1 (f n : Nat) (s : State) := loopAt Try.prog (orc [⟨81, iCount.R⟩, ⟨80, iNone.R⟩, ⟨83, counting2.R⟩, ⟨82, askIdx.R⟩, ⟨58, slContains.R⟩, ⟨85, iDearer.R⟩]) hd Dr.std 0 f (bodyOf Try.f65) 0 [true, true, true, true] (retK Try.prog [4, 5] 0 none) n s
noncomputable def L3 (f n n2 : Nat) (s : State) := loopAt Try.prog (orc [⟨81, iCount.R⟩, ⟨80, iNone.R⟩, ⟨83, counting2.R⟩, ⟨82, askIdx.R⟩, ⟨58, slContains.R⟩, ⟨85, iDearer.R⟩]) hd Dr.std 0 f (bodyAt (bodyOf Try.f65) [true, true, true, true]) (curAt (bodyOf Try.f65) 0 [true, true, true, true]) [true, true, true, true, true, true, true, true, false, true] (iterK (normE 0 (hd (curAt (bodyOf Try.f65) 0 [true, true, true, true]))) (L1 f n) (contAt Try.prog (orc [⟨81, iCount.R⟩, ⟨80, iNone.R⟩, ⟨83, counting2.R⟩, ⟨82, askIdx.R⟩, ⟨58, slContains.R⟩, ⟨85, iDearer.R⟩]) hd Dr.std 0 f (bodyOf Try.f65) 0 [true, true, true, true] (retK Try.prog [4, 5] 0 none))) n2 s
theorem start (ls rs : List (List Int)) (ss : List Int) (m k p : Nat) (f : Nat) :
  runFn Try.prog (orc [⟨81, iCount.R⟩, ⟨80, iNone.R⟩, ⟨83, counting2.R⟩, ⟨82, askIdx.R⟩, ⟨58, slContains.R⟩, ⟨85, iDearer.R⟩]) hd Dr.std none f (bodyOf Try.f65) 96 [4, 5] [.agg [.ro (.rows .i64 ls) m 1, .ro (.rows .i64 rs) k 1], .ro (.ints .i64 ss) p 1] []
  = (bif true && true && (true && true && true) then bif true && (true && (true && true) && true || true && true) then bif decide ((1 : Int) ≤ (↑m : Int) ∧ (↑m : Int) ≤ (8 : Int)) && (true && true || true && (true && true)) then bif true && true && (true && true && true) then bif true && (true && (true && true) && true || true && true) then bif (1 : Nat) == (1 : Nat) && ((↑m : Int) == (↑m : Int) && (decide ((0 : Int) ≤ (↑m : Int)) && (decide ((↑m : Int) * (8 : Int) ≤ (140737488355328 : Int)) && decide ((↑m : Int) ≤ (4611686018427387904 : Int))))) then L1 f f (mkS (96 : Nat) [((1 : Nat), AVal.ro (Cont.ints IntKind.i64 ss) p (1 : Nat)), ((2 : Nat), AVal.ptr (0 : Nat) (0 : Nat) (0 : Nat)), ((4 : Nat), AVal.nils), ((5 : Nat), AVal.int IntKind.i64 (0 : Int)), ((6 : Nat), AVal.ptr ((1 : Nat) + (1 : Nat)) (0 : Nat) (0 : Nat)), ((7 : Nat), AVal.ptr ((1 : Nat) + (1 : Nat) + (1 : Nat) + (1 : Nat)) (0 : Nat) (0 : Nat)), ((8 : Nat), AVal.int IntKind.i64 (0 : Int))] [{ c := BC.cells [AVal.ro (Cont.rows IntKind.i64 ls) m (1 : Nat), AVal.ro (Cont.rows IntKind.i64 rs) k (1 : Nat)], ver := (0 : Nat) }, { c := BC.typ (Cont.ints IntKind.i64 (List.replicate (↑m : Int).toNat (-1 : Int))), ver := (0 : Nat) }, { c := BC.cells [AVal.own (1 : Nat) (0 : Nat) (↑m : Int).toNat (0 : Nat) (1 : Nat)], ver := (0 : Nat) }, { c := BC.typ (Cont.ints IntKind.i64 (List.replicate (↑m : Int).toNat (0 : Int))), ver := (0 : Nat) }, { c := BC.cells [AVal.own ((1 : Nat) + (1 : Nat) + (1 : Nat)) (0 : Nat) (↑m : Int).toNat (0 : Nat) (1 : Nat)], ver := (0 : Nat) }]) else none else none else none else none else none else none) := by kernel_rfl
theorem round1 (ls rs : List (List Int)) (ss : List Int) (m k p : Nat) (mt ak : List Int) (q t : Nat) (c : Int) (f n : Nat) :
  L1 f (n + 1) (mkS 96 [(1, .ro (.ints .i64 ss) p 1), (2, .ptr 0 0 0), (4, .nils), (5, .int .i64 0), (6, .ptr 2 0 0), (7, .ptr 4 0 0), (8, .int .i64 c)] [⟨.cells [.ro (.rows .i64 ls) m 1, .ro (.rows .i64 rs) k 1], 0⟩, ⟨.typ (.ints .i64 mt), 0⟩, ⟨.cells [.own 1 0 q 0 1], 0⟩, ⟨.typ (.ints .i64 ak), 0⟩, ⟨.cells [.own 3 0 t 0 1], 0⟩])
  = (bif true && true && (true && true && true) then bif true && (true && (true && true) && true || true && true) then bif decide ((0 : Int) ≤ (↑m : Int) ∧ (↑m : Int) ≤ (1000 : Int)) && (true && true || true && (true && true)) then bif decide (q = m ∧ t = m ∧ m = ls.length ∧ mt.length = m ∧ ak.length = m ∧ (cq.sv (↑m : Int).toNat).length = m ∧ (cq.sv (↑m : Int).toNat).length ≤ (1000 : Nat) ∧ cq.sv (↑m : Int).toNat = cq.sv (cq.sv (↑m : Int).toNat).length ∧ (84 : Nat) = (84 : FuncId)) && (false && false || true && true) then bif decide (ask.fi.sv ls mt ak < (0 : Int)) then bif true && true then some (AVal.tup [AVal.own (1 : Nat) (0 : Nat) q (0 : Nat) (1 : Nat), AVal.int IntKind.i64 c], [{ c := BC.cells [AVal.ro (Cont.rows IntKind.i64 ls) m (1 : Nat), AVal.ro (Cont.rows IntKind.i64 rs) k (1 : Nat)], ver := (0 : Nat) }, { c := BC.typ (Cont.ints IntKind.i64 mt), ver := (0 : Nat) }, { c := BC.cells [AVal.own (1 : Nat) (0 : Nat) q (0 : Nat) (1 : Nat)], ver := (0 : Nat) }, { c := BC.typ (Cont.ints IntKind.i64 ak), ver := (0 : Nat) }, { c := BC.cells [AVal.own (3 : Nat) (0 : Nat) t (0 : Nat) (1 : Nat)], ver := (0 : Nat) }]) else none else bif true && true then bif true && (decide ((0 : Int) ≤ ask.fi.sv ls mt ak) && decide (ask.fi.sv ls mt ak < (↑m : Int))) then bif decide ((ask.fi.sv ls mt ak).toNat < ls.length) then bif true && true then bif true && (decide ((0 : Int) ≤ ask.fi.sv ls mt ak) && decide (ask.fi.sv ls mt ak < (↑t : Int))) then bif true && decide ((ask.fi.sv ls mt ak).toNat < ak.length) then bif true && (decide ((0 : Int) ≤ gz ak (ask.fi.sv ls mt ak).toNat) && decide (gz ak (ask.fi.sv ls mt ak).toNat < (↑(gr ls (ask.fi.sv ls mt ak).toNat).length : Int))) then bif decide ((gz ak (ask.fi.sv ls mt ak).toNat).toNat < (gr ls (ask.fi.sv ls mt ak).toNat).length) then bif true && true then bif true && (decide ((0 : Int) ≤ ask.fi.sv ls mt ak) && decide (ask.fi.sv ls mt ak < (↑t : Int))) then bif true && decide ((ask.fi.sv ls mt ak).toNat < ak.length) then bif true && (decide ((0 : Int) ≤ ask.fi.sv ls mt ak) && decide (ask.fi.sv ls mt ak < (↑t : Int))) then bif true && (true && (decide ((ask.fi.sv ls mt ak).toNat < ak.length) && true)) then bif true && true then bif true && (decide ((0 : Int) ≤ gz (gr ls (ask.fi.sv ls mt ak).toNat) (gz ak (ask.fi.sv ls mt ak).toNat).toNat) && decide (gz (gr ls (ask.fi.sv ls mt ak).toNat) (gz ak (ask.fi.sv ls mt ak).toNat).toNat < (↑k : Int))) then bif decide ((gz (gr ls (ask.fi.sv ls mt ak).toNat) (gz ak (ask.fi.sv ls mt ak).toNat).toNat).toNat < rs.length) then bif decide ((gr rs (gz (gr ls (ask.fi.sv ls mt ak).toNat) (gz ak (ask.fi.sv ls mt ak).toNat).toNat).toNat).length ≤ (gr rs (gz (gr ls (ask.fi.sv ls mt ak).toNat) (gz ak (ask.fi.sv ls mt ak).toNat).toNat).toNat).length ∧ (gr rs (gz (gr ls (ask.fi.sv ls mt ak).toNat) (gz ak (ask.fi.sv ls mt ak).toNat).toNat).toNat).length ≤ (4611686018427387904 : Nat)) && (true && (true && true) || true && true) then bif !(List.take (gr rs (gz (gr ls (ask.fi.sv ls mt ak).toNat) (gz ak (ask.fi.sv ls mt ak).toNat).toNat).toNat).length (gr rs (gz (gr ls (ask.fi.sv ls mt ak).toNat) (gz ak (ask.fi.sv ls mt ak).toNat).toNat).toNat)).any (has.sp (ask.fi.sv ls mt ak)) then L1 f n (mkS (96 : Nat) [((1 : Nat), AVal.ro (Cont.ints IntKind.i64 ss) p (1 : Nat)), ((2 : Nat), AVal.ptr (0 : Nat) (0 : Nat) (0 : Nat)), ((4 : Nat), AVal.nils), ((5 : Nat), AVal.int IntKind.i64 (0 : Int)), ((6 : Nat), AVal.ptr (2 : Nat) (0 : Nat) (0 : Nat)), ((7 : Nat), AVal.ptr (4 : Nat) (0 : Nat) (0 : Nat)), ((8 : Nat), AVal.int IntKind.i64 (IntKind.i64.wrap (c + (1 : Int))))] [{ c := BC.cells [AVal.ro (Cont.rows IntKind.i64 ls) m (1 : Nat), AVal.ro (Cont.rows IntKind.i64 rs) k (1 : Nat)], ver := (0 : Nat) }, { c := BC.typ (Cont.ints IntKind.i64 mt), ver := (0 : Nat) }, { c := BC.cells [AVal.own (1 : Nat) (0 : Nat) q (0 : Nat) (1 : Nat)], ver := (0 : Nat) }, { c := BC.typ (Cont.ints IntKind.i64 (ak.set (ask.fi.sv ls mt ak).toNat (IntKind.i64.wrap (gz ak (ask.fi.sv ls mt ak).toNat + (1 : Int))))), ver := (0 : Nat) }, { c := BC.cells [AVal.own (3 : Nat) (0 : Nat) t (0 : Nat) (1 : Nat)], ver := (0 : Nat) }]) else bif true && true then bif true && (decide ((0 : Int) ≤ ask.fi.sv ls mt ak) && decide (ask.fi.sv ls mt ak < (↑q : Int))) then bif true && (true && (decide ((ask.fi.sv ls mt ak).toNat < mt.length) && true)) then bif true && true then L3 f n f (mkS (96 : Nat) [((1 : Nat), AVal.ro (Cont.ints IntKind.i64 ss) p (1 : Nat)), ((2 : Nat), AVal.ptr (0 : Nat) (0 : Nat) (0 : Nat)), ((4 : Nat), AVal.nils), ((5 : Nat), AVal.int IntKind.i64 (0 : Int)), ((6 : Nat), AVal.ptr (2 : Nat) (0 : Nat) (0 : Nat)), ((7 : Nat), AVal.ptr (4 : Nat) (0 : Nat) (0 : Nat)), ((8 : Nat), AVal.int IntKind.i64 (IntKind.i64.wrap (c + (1 : Int)))), ((10 : Nat), AVal.int IntKind.i64 (gz (gr ls (ask.fi.sv ls mt ak).toNat) (gz ak (ask.fi.sv ls mt ak).toNat).toNat)), ((11 : Nat), AVal.int IntKind.i64 (0 : Int)), ((12 : Nat), AVal.int IntKind.i64 (-1 : Int)), ((61 : Nat), AVal.own (1 : Nat) (0 : Nat) q (0 : Nat) (1 : Nat)), ((62 : Nat), AVal.int IntKind.i64 (↑q : Int)), ((63 : Nat), AVal.int IntKind.i64 (0 : Int))] [{ c := BC.cells [AVal.ro (Cont.rows IntKind.i64 ls) m (1 : Nat), AVal.ro (Cont.rows IntKind.i64 rs) k (1 : Nat)], ver := (0 : Nat) }, { c := BC.typ (Cont.ints IntKind.i64 (mt.set (ask.fi.sv ls mt ak).toNat (gz (gr ls (ask.fi.sv ls mt ak).toNat) (gz ak (ask.fi.sv ls mt ak).toNat).toNat))), ver := (0 : Nat) }, { c := BC.cells [AVal.own (1 : Nat) (0 : Nat) q (0 : Nat) (1 : Nat)], ver := (0 : Nat) }, { c := BC.typ (Cont.ints IntKind.i64 (ak.set (ask.fi.sv ls mt ak).toNat (IntKind.i64.wrap (gz ak (ask.fi.sv ls mt ak).toNat + (1 : Int))))), ver := (0 : Nat) }, { c := BC.cells [AVal.own (3 : Nat) (0 : Nat) t (0 : Nat) (1 : Nat)], ver := (0 : Nat) }]) else none else none else none else none else none else none else none else none else none else none else none else none else none else none else none else none else none else none else none else none else none else none else none else none else none) := by kernel_rfl
theorem round3 (ls rs : List (List Int)) (ss : List Int) (m k p : Nat) (mt ak : List Int) (q t : Nat) (c b h w : Int) (i f n n2 : Nat) :
  L3 f n (n2 + 1) (mkS 96 [(1, .ro (.ints .i64 ss) p 1), (2, .ptr 0 0 0), (4, .nils), (5, .int .i64 0), (6, .ptr 2 0 0), (7, .ptr 4 0 0), (8, .int .i64 c), (10, .int .i64 b), (11, .int .i64 h), (12, .int .i64 w), (61, .own 1 0 q 0 1), (62, .int .i64 q), (63, .int .i64 (i : Nat))] [⟨.cells [.ro (.rows .i64 ls) m 1, .ro (.rows .i64 rs) k 1], 0⟩, ⟨.typ (.ints .i64 mt), 0⟩, ⟨.cells [.own 1 0 q 0 1], 0⟩, ⟨.typ (.ints .i64 ak), 0⟩, ⟨.cells [.own 3 0 t 0 1], 0⟩])
  = (bif decide ((↑i : Int) < (↑q : Int)) then bif true && (decide ((0 : Int) ≤ (↑i : Int)) && decide ((↑i : Int) < (↑q : Int))) then bif true && decide ((↑i : Int).toNat < mt.length) then bif gz mt (↑i : Int).toNat != b then L3 f n n2 (mkS (96 : Nat) [((1 : Nat), AVal.ro (Cont.ints IntKind.i64 ss) p (1 : Nat)), ((2 : Nat), AVal.ptr (0 : Nat) (0 : Nat) (0 : Nat)), ((4 : Nat), AVal.nils), ((5 : Nat), AVal.int IntKind.i64 (0 : Int)), ((6 : Nat), AVal.ptr (2 : Nat) (0 : Nat) (0 : Nat)), ((7 : Nat), AVal.ptr (4 : Nat) (0 : Nat) (0 : Nat)), ((8 : Nat), AVal.int IntKind.i64 c), ((10 : Nat), AVal.int IntKind.i64 b), ((11 : Nat), AVal.int IntKind.i64 h), ((12 : Nat), AVal.int IntKind.i64 w), ((61 : Nat), AVal.own (1 : Nat) (0 : Nat) q (0 : Nat) (1 : Nat)), ((62 : Nat), AVal.int IntKind.i64 (↑q : Int)), ((63 : Nat), AVal.int IntKind.i64 (IntKind.i64.wrap ((↑i : Int) + (1 : Int))))] [{ c := BC.cells [AVal.ro (Cont.rows IntKind.i64 ls) m (1 : Nat), AVal.ro (Cont.rows IntKind.i64 rs) k (1 : Nat)], ver := (0 : Nat) }, { c := BC.typ (Cont.ints IntKind.i64 mt), ver := (0 : Nat) }, { c := BC.cells [AVal.own (1 : Nat) (0 : Nat) q (0 : Nat) (1 : Nat)], ver := (0 : Nat) }, { c := BC.typ (Cont.ints IntKind.i64 ak), ver := (0 : Nat) }, { c := BC.cells [AVal.own (3 : Nat) (0 : Nat) t (0 : Nat) (1 : Nat)], ver := (0 : Nat) }]) else bif decide (w < (0 : Int)) then L3 f n n2 (mkS (96 : Nat) [((1 : Nat), AVal.ro (Cont.ints IntKind.i64 ss) p (1 : Nat)), ((2 : Nat), AVal.ptr (0 : Nat) (0 : Nat) (0 : Nat)), ((4 : Nat), AVal.nils), ((5 : Nat), AVal.int IntKind.i64 (0 : Int)), ((6 : Nat), AVal.ptr (2 : Nat) (0 : Nat) (0 : Nat)), ((7 : Nat), AVal.ptr (4 : Nat) (0 : Nat) (0 : Nat)), ((8 : Nat), AVal.int IntKind.i64 c), ((10 : Nat), AVal.int IntKind.i64 b), ((11 : Nat), AVal.int IntKind.i64 (IntKind.i64.wrap (h + (1 : Int)))), ((12 : Nat), AVal.int IntKind.i64 (↑i : Int)), ((61 : Nat), AVal.own (1 : Nat) (0 : Nat) q (0 : Nat) (1 : Nat)), ((62 : Nat), AVal.int IntKind.i64 (↑q : Int)), ((63 : Nat), AVal.int IntKind.i64 (IntKind.i64.wrap ((↑i : Int) + (1 : Int))))] [{ c := BC.cells [AVal.ro (Cont.rows IntKind.i64 ls) m (1 : Nat), AVal.ro (Cont.rows IntKind.i64 rs) k (1 : Nat)], ver := (0 : Nat) }, { c := BC.typ (Cont.ints IntKind.i64 mt), ver := (0 : Nat) }, { c := BC.cells [AVal.own (1 : Nat) (0 : Nat) q (0 : Nat) (1 : Nat)], ver := (0 : Nat) }, { c := BC.typ (Cont.ints IntKind.i64 ak), ver := (0 : Nat) }, { c := BC.cells [AVal.own (3 : Nat) (0 : Nat) t (0 : Nat) (1 : Nat)], ver := (0 : Nat) }]) else bif true && true then bif true && (decide ((0 : Int) ≤ b) && decide (b < (↑k : Int))) then bif decide (b.toNat < rs.length) then bif decide ((gr rs b.toNat).length = (gr rs b.toNat).length ∧ (gr rs b.toNat).length ≤ (4611686018427387904 : Nat)) && (true && (true && (true && true)) || true && true) then bif decide (pl.sv w (gr rs b.toNat) < pl.sv (↑i : Int) (gr rs b.toNat)) then L3 f n n2 (mkS (96 : Nat) [((1 : Nat), AVal.ro (Cont.ints IntKind.i64 ss) p (1 : Nat)), ((2 : Nat), AVal.ptr (0 : Nat) (0 : Nat) (0 : Nat)), ((4 : Nat), AVal.nils), ((5 : Nat), AVal.int IntKind.i64 (0 : Int)), ((6 : Nat), AVal.ptr (2 : Nat) (0 : Nat) (0 : Nat)), ((7 : Nat), AVal.ptr (4 : Nat) (0 : Nat) (0 : Nat)), ((8 : Nat), AVal.int IntKind.i64 c), ((10 : Nat), AVal.int IntKind.i64 b), ((11 : Nat), AVal.int IntKind.i64 (IntKind.i64.wrap (h + (1 : Int)))), ((12 : Nat), AVal.int IntKind.i64 (↑i : Int)), ((61 : Nat), AVal.own (1 : Nat) (0 : Nat) q (0 : Nat) (1 : Nat)), ((62 : Nat), AVal.int IntKind.i64 (↑q : Int)), ((63 : Nat), AVal.int IntKind.i64 (IntKind.i64.wrap ((↑i : Int) + (1 : Int))))] [{ c := BC.cells [AVal.ro (Cont.rows IntKind.i64 ls) m (1 : Nat), AVal.ro (Cont.rows IntKind.i64 rs) k (1 : Nat)], ver := (0 : Nat) }, { c := BC.typ (Cont.ints IntKind.i64 mt), ver := (0 : Nat) }, { c := BC.cells [AVal.own (1 : Nat) (0 : Nat) q (0 : Nat) (1 : Nat)], ver := (0 : Nat) }, { c := BC.typ (Cont.ints IntKind.i64 ak), ver := (0 : Nat) }, { c := BC.cells [AVal.own (3 : Nat) (0 : Nat) t (0 : Nat) (1 : Nat)], ver := (0 : Nat) }]) else L3 f n n2 (mkS (96 : Nat) [((1 : Nat), AVal.ro (Cont.ints IntKind.i64 ss) p (1 : Nat)), ((2 : Nat), AVal.ptr (0 : Nat) (0 : Nat) (0 : Nat)), ((4 : Nat), AVal.nils), ((5 : Nat), AVal.int IntKind.i64 (0 : Int)), ((6 : Nat), AVal.ptr (2 : Nat) (0 : Nat) (0 : Nat)), ((7 : Nat), AVal.ptr (4 : Nat) (0 : Nat) (0 : Nat)), ((8 : Nat), AVal.int IntKind.i64 c), ((10 : Nat), AVal.int IntKind.i64 b), ((11 : Nat), AVal.int IntKind.i64 (IntKind.i64.wrap (h + (1 : Int)))), ((12 : Nat), AVal.int IntKind.i64 w), ((61 : Nat), AVal.own (1 : Nat) (0 : Nat) q (0 : Nat) (1 : Nat)), ((62 : Nat), AVal.int IntKind.i64 (↑q : Int)), ((63 : Nat), AVal.int IntKind.i64 (IntKind.i64.wrap ((↑i : Int) + (1 : Int))))] [{ c := BC.cells [AVal.ro (Cont.rows IntKind.i64 ls) m (1 : Nat), AVal.ro (Cont.rows IntKind.i64 rs) k (1 : Nat)], ver := (0 : Nat) }, { c := BC.typ (Cont.ints IntKind.i64 mt), ver := (0 : Nat) }, { c := BC.cells [AVal.own (1 : Nat) (0 : Nat) q (0 : Nat) (1 : Nat)], ver := (0 : Nat) }, { c := BC.typ (Cont.ints IntKind.i64 ak), ver := (0 : Nat) }, { c := BC.cells [AVal.own (3 : Nat) (0 : Nat) t (0 : Nat) (1 : Nat)], ver := (0 : Nat) }]) else none else none else none else none else none else none else bif true && (decide ((0 : Int) ≤ b) && decide (b < (↑p : Int))) then bif decide (b.toNat < ss.length) then bif decide (gz ss b.toNat < h) then bif true && true then bif true && (decide ((0 : Int) ≤ w) && decide (w < (↑q : Int))) then bif true && (true && (decide (w.toNat < mt.length) && true)) then L1 f n (mkS (96 : Nat) [((1 : Nat), AVal.ro (Cont.ints IntKind.i64 ss) p (1 : Nat)), ((2 : Nat), AVal.ptr (0 : Nat) (0 : Nat) (0 : Nat)), ((4 : Nat), AVal.nils), ((5 : Nat), AVal.int IntKind.i64 (0 : Int)), ((6 : Nat), AVal.ptr (2 : Nat) (0 : Nat) (0 : Nat)), ((7 : Nat), AVal.ptr (4 : Nat) (0 : Nat) (0 : Nat)), ((8 : Nat), AVal.int IntKind.i64 c)] [{ c := BC.cells [AVal.ro (Cont.rows IntKind.i64 ls) m (1 : Nat), AVal.ro (Cont.rows IntKind.i64 rs) k (1 : Nat)], ver := (0 : Nat) }, { c := BC.typ (Cont.ints IntKind.i64 (mt.set w.toNat (-1 : Int))), ver := (0 : Nat) }, { c := BC.cells [AVal.own (1 : Nat) (0 : Nat) q (0 : Nat) (1 : Nat)], ver := (0 : Nat) }, { c := BC.typ (Cont.ints IntKind.i64 ak), ver := (0 : Nat) }, { c := BC.cells [AVal.own (3 : Nat) (0 : Nat) t (0 : Nat) (1 : Nat)], ver := (0 : Nat) }]) else none else none else none else L1 f n (mkS (96 : Nat) [((1 : Nat), AVal.ro (Cont.ints IntKind.i64 ss) p (1 : Nat)), ((2 : Nat), AVal.ptr (0 : Nat) (0 : Nat) (0 : Nat)), ((4 : Nat), AVal.nils), ((5 : Nat), AVal.int IntKind.i64 (0 : Int)), ((6 : Nat), AVal.ptr (2 : Nat) (0 : Nat) (0 : Nat)), ((7 : Nat), AVal.ptr (4 : Nat) (0 : Nat) (0 : Nat)), ((8 : Nat), AVal.int IntKind.i64 c)] [{ c := BC.cells [AVal.ro (Cont.rows IntKind.i64 ls) m (1 : Nat), AVal.ro (Cont.rows IntKind.i64 rs) k (1 : Nat)], ver := (0 : Nat) }, { c := BC.typ (Cont.ints IntKind.i64 mt), ver := (0 : Nat) }, { c := BC.cells [AVal.own (1 : Nat) (0 : Nat) q (0 : Nat) (1 : Nat)], ver := (0 : Nat) }, { c := BC.typ (Cont.ints IntKind.i64 ak), ver := (0 : Nat) }, { c := BC.cells [AVal.own (3 : Nat) (0 : Nat) t (0 : Nat) (1 : Nat)], ver := (0 : Nat) }]) else none else none) := by kernel_rfl
end iAsk

namespace l05Ask
def dr : Nat → Dr := fun i => bif eqN i 30 then ⟨some [0, 1, 2, 3, 4, 5, 6, 7, 9, 10, 11, 12, 13, 14, 15, 16, 8, 17, 18], false⟩ else ⟨none, false⟩
def hd : Nat → Head := fun i => bif eqN i 0 then ⟨[0, 1, 4, 5, 6, 7, 26, 27], some 1⟩ else bif eqN i 2 then ⟨[0, 1, 4, 5, 7, 8, 9], some 2⟩ else bif eqN i 4 then ⟨[0, 1, 4, 5, 7, 8, 9, 10, 36, 37], some 2⟩ else ⟨[0, 1, 4, 5, 7, 8, 9, 12, 13, 14, 107, 108], some 2⟩
noncomputable def L0 (f n : Nat) (s : State) := loopAt Try.prog (orc [⟨73, l05Takes.R⟩, ⟨78, l05Place.R⟩]) hd dr 0 f (bodyOf Try.f62) 0 [true, true, true, false, true] (retK Try.prog [4, 5] 0 (some 1)) n s
noncomputable def L1 (f n : Nat) (s : State) := loopAt Try.prog (orc [⟨73, l05Takes.R⟩, ⟨78, l05Place.R⟩]) hd dr 0 f (bodyOf Try.f62) 0 [true, true, true, true, true, true] (retK Try.prog [4, 5] 0 (some 1)) n s
noncomputable def L2 (f n n2 : Nat) (s : State) := loopAt Try.prog (orc [⟨73, l05Takes.R⟩, ⟨78, l05Place.R⟩]) hd dr 0 f (bodyAt (bodyOf Try.f62) [true, true, true, true, true, true]) (curAt (bodyOf Try.f62) 0 [true, true, true, true, true, true]) [true, false, true] (iterK (normE 0 (hd (curAt (bodyOf Try.f62) 0 [true, true, true, true, true, true]))) (L1 f n) (contAt Try.prog (orc [⟨73, l05Takes.R⟩, ⟨78, l05Place.R⟩]) hd dr 0 f (bodyOf Try.f62) 0 [true, true, true, true, true, true] (retK Try.prog [4, 5] 0 (some 1)))) n2 s
noncomputable def L3 (f n n2 : Nat) (s : State) := loopAt Try.prog (orc [⟨73, l05Takes.R⟩, ⟨78, l05Place.R⟩]) hd dr 0 f (bodyAt (bodyOf Try.f62) [true, true, true, true, true, true]) (curAt (bodyOf Try.f62) 0 [true, true, true, true, true, true]) [true, true, true, true, true, true, true, true, true, true, false, true] (iterK (normE 0 (hd (curAt (bodyOf Try.f62) 0 [true, true, true, true, true, true]))) (L1 f n) (contAt Try.prog (orc [⟨73, l05Takes.R⟩, ⟨78, l05Place.R⟩]) hd dr 0 f (bodyOf Try.f62) 0 [true, true, true, true, true, true] (retK Try.prog [4, 5] 0 (some 1)))) n2 s
theorem start (ls rs : List (List Int)) (ss : List Int) (m k p : Nat) (f : Nat) :
  runFn Try.prog (orc [⟨73, l05Takes.R⟩, ⟨78, l05Place.R⟩]) hd dr (some 1) f (bodyOf Try.f62) 149 [4, 5] [.rom [.ro (.rows .i64 ls) m 1, .ro (.rows .i64 rs) k 1] 0, .ro (.ints .i64 ss) p 1] []
  = (L0 f f (mkS (149 : Nat) [((0 : Nat), AVal.rom [AVal.ro (Cont.rows IntKind.i64 ls) m (1 : Nat), AVal.ro (Cont.rows IntKind.i64 rs) k (1 : Nat)] (0 : Nat)), ((1 : Nat), AVal.ro (Cont.ints IntKind.i64 ss) p (1 : Nat)), ((4 : Nat), AVal.nils), ((5 : Nat), AVal.int IntKind.i64 (0 : Int)), ((6 : Nat), AVal.int IntKind.i64 (↑m : Int)), ((7 : Nat), AVal.own (0 : Nat) (0 : Nat) (0 : Nat) (0 : Nat) (1 : Nat)), ((26 : Nat), AVal.int IntKind.i64 (↑m : Int)), ((27 : Nat), AVal.int IntKind.i64 (0 : Int))] [{ c := BC.typ (Cont.ints IntKind.i64 (List.replicate (0 : Nat) (0 : Int))), ver := (0 : Nat) }])) := by kernel_rfl
theorem round0 (ls rs : List (List Int)) (ss : List Int) (m k p : Nat) (mt : List Int) (i f n : Nat) :
  L0 f (n + 1) (mkS 149 [(0, .rom [.ro (.rows .i64 ls) m 1, .ro (.rows .i64 rs) k 1] 0), (1, .ro (.ints .i64 ss) p 1), (4, .nils), (5, .int .i64 0), (6, .int .i64 m), (7, .own 0 0 mt.length 0 1), (26, .int .i64 m), (27, .int .i64 i)] [⟨.typ (.ints .i64 mt), 0⟩])
  = (bif decide ((↑i : Int) < (↑m : Int)) then bif (1 : Nat) == (1 : Nat) && (1 : Nat) == (1 : Nat) && (true && (true && true) && (true && true && (decide (mt.length + (1 : Nat) ≤ (4611686018427387904 : Nat)) && decide ((mt.length + (1 : Nat)) * (8 : Nat) ≤ (140737488355328 : Nat))))) then L0 f n (mkS (149 : Nat) [((0 : Nat), AVal.rom [AVal.ro (Cont.rows IntKind.i64 ls) m (1 : Nat), AVal.ro (Cont.rows IntKind.i64 rs) k (1 : Nat)] (0 : Nat)), ((1 : Nat), AVal.ro (Cont.ints IntKind.i64 ss) p (1 : Nat)), ((4 : Nat), AVal.nils), ((5 : Nat), AVal.int IntKind.i64 (0 : Int)), ((6 : Nat), AVal.int IntKind.i64 (↑m : Int)), ((7 : Nat), AVal.own (0 : Nat) (0 : Nat) (mt.length + (1 : Nat)) (0 : Nat) (1 : Nat)), ((26 : Nat), AVal.int IntKind.i64 (↑m : Int)), ((27 : Nat), AVal.int IntKind.i64 (IntKind.i64.wrap ((↑i : Int) + (1 : Int))))] [{ c := BC.typ (Cont.ints IntKind.i64 (List.take mt.length mt ++ List.take (1 : Nat) (List.drop (0 : Nat) ((List.replicate (1 : Nat) (0 : Int)).set (0 : Nat) (-1 : Int))))), ver := (0 : Nat) }]) else none else bif (1 : Nat) == (1 : Nat) && ((↑m : Int) == (↑m : Int) && (decide ((0 : Int) ≤ (↑m : Int)) && (decide ((↑m : Int) * (8 : Int) ≤ (140737488355328 : Int)) && decide ((↑m : Int) ≤ (4611686018427387904 : Int))))) then L1 f f (mkS (149 : Nat) [((0 : Nat), AVal.rom [AVal.ro (Cont.rows IntKind.i64 ls) m (1 : Nat), AVal.ro (Cont.rows IntKind.i64 rs) k (1 : Nat)] (0 : Nat)), ((1 : Nat), AVal.ro (Cont.ints IntKind.i64 ss) p (1 : Nat)), ((4 : Nat), AVal.nils), ((5 : Nat), AVal.int IntKind.i64 (0 : Int)), ((7 : Nat), AVal.own (0 : Nat) (0 : Nat) mt.length (0 : Nat) (1 : Nat)), ((8 : Nat), AVal.own (1 : Nat) (0 : Nat) (↑m : Int).toNat (0 : Nat) (1 : Nat)), ((9 : Nat), AVal.int IntKind.i64 (0 : Int))] [{ c := BC.typ (Cont.ints IntKind.i64 mt), ver := (0 : Nat) }, { c := BC.typ (Cont.ints IntKind.i64 (List.replicate (↑m : Int).toNat (0 : Int))), ver := (0 : Nat) }]) else none) := by kernel_rfl
theorem round1 (ls rs : List (List Int)) (ss : List Int) (m k p : Nat) (mt ak : List Int) (q t : Nat) (c : Int) (f n : Nat) :
  L1 f (n + 1) (mkS 149 [(0, .rom [.ro (.rows .i64 ls) m 1, .ro (.rows .i64 rs) k 1] 0), (1, .ro (.ints .i64 ss) p 1), (4, .nils), (5, .int .i64 0), (7, .own 0 0 q 0 1), (8, .own 1 0 t 0 1), (9, .int .i64 c)] [⟨.typ (.ints .i64 mt), 0⟩, ⟨.typ (.ints .i64 ak), 0⟩])
  = (L2 f n f (mkS (149 : Nat) [((0 : Nat), AVal.rom [AVal.ro (Cont.rows IntKind.i64 ls) m (1 : Nat), AVal.ro (Cont.rows IntKind.i64 rs) k (1 : Nat)] (0 : Nat)), ((1 : Nat), AVal.ro (Cont.ints IntKind.i64 ss) p (1 : Nat)), ((4 : Nat), AVal.nils), ((5 : Nat), AVal.int IntKind.i64 (0 : Int)), ((7 : Nat), AVal.own (0 : Nat) (0 : Nat) q (0 : Nat) (1 : Nat)), ((8 : Nat), AVal.own (1 : Nat) (0 : Nat) t (0 : Nat) (1 : Nat)), ((9 : Nat), AVal.int IntKind.i64 c), ((10 : Nat), AVal.int IntKind.i64 (-1 : Int)), ((36 : Nat), AVal.int IntKind.i64 (↑q : Int)), ((37 : Nat), AVal.int IntKind.i64 (0 : Int))] [{ c := BC.typ (Cont.ints IntKind.i64 mt), ver := (0 : Nat) }, { c := BC.typ (Cont.ints IntKind.i64 ak), ver := (0 : Nat) }])) := by kernel_rfl
theorem round2 (ls rs : List (List Int)) (ss : List Int) (m k p : Nat) (mt ak : List Int) (q t : Nat) (c a : Int) (i f n n2 : Nat) :
  L2 f n (n2 + 1) (mkS 149 [(0, .rom [.ro (.rows .i64 ls) m 1, .ro (.rows .i64 rs) k 1] 0), (1, .ro (.ints .i64 ss) p 1), (4, .nils), (5, .int .i64 0), (7, .own 0 0 q 0 1), (8, .own 1 0 t 0 1), (9, .int .i64 c), (10, .int .i64 a), (36, .int .i64 q), (37, .int .i64 (i : Nat))] [⟨.typ (.ints .i64 mt), 0⟩, ⟨.typ (.ints .i64 ak), 0⟩])
  = (bif decide ((↑i : Int) < (↑q : Int)) then bif decide (a < (0 : Int)) then bif true && (decide ((0 : Int) ≤ (↑i : Int)) && decide ((↑i : Int) < (↑q : Int))) then bif true && decide ((↑i : Int).toNat < mt.length) then bif decide (gz mt (↑i : Int).toNat < (0 : Int)) then bif true && (decide ((0 : Int) ≤ (↑i : Int)) && decide ((↑i : Int) < (↑t : Int))) then bif true && decide ((↑i : Int).toNat < ak.length) then bif true && (decide ((0 : Int) ≤ (↑i : Int)) && decide ((↑i : Int) < (↑m : Int))) then bif decide ((↑i : Int).toNat < ls.length) then bif decide (gz ak (↑i : Int).toNat < (↑(gr ls (↑i : Int).toNat).length : Int)) then L2 f n n2 (mkS (149 : Nat) [((0 : Nat), AVal.rom [AVal.ro (Cont.rows IntKind.i64 ls) m (1 : Nat), AVal.ro (Cont.rows IntKind.i64 rs) k (1 : Nat)] (0 : Nat)), ((1 : Nat), AVal.ro (Cont.ints IntKind.i64 ss) p (1 : Nat)), ((4 : Nat), AVal.nils), ((5 : Nat), AVal.int IntKind.i64 (0 : Int)), ((7 : Nat), AVal.own (0 : Nat) (0 : Nat) q (0 : Nat) (1 : Nat)), ((8 : Nat), AVal.own (1 : Nat) (0 : Nat) t (0 : Nat) (1 : Nat)), ((9 : Nat), AVal.int IntKind.i64 c), ((10 : Nat), AVal.int IntKind.i64 (↑i : Int)), ((36 : Nat), AVal.int IntKind.i64 (↑q : Int)), ((37 : Nat), AVal.int IntKind.i64 (IntKind.i64.wrap ((↑i : Int) + (1 : Int))))] [{ c := BC.typ (Cont.ints IntKind.i64 mt), ver := (0 : Nat) }, { c := BC.typ (Cont.ints IntKind.i64 ak), ver := (0 : Nat) }]) else L2 f n n2 (mkS (149 : Nat) [((0 : Nat), AVal.rom [AVal.ro (Cont.rows IntKind.i64 ls) m (1 : Nat), AVal.ro (Cont.rows IntKind.i64 rs) k (1 : Nat)] (0 : Nat)), ((1 : Nat), AVal.ro (Cont.ints IntKind.i64 ss) p (1 : Nat)), ((4 : Nat), AVal.nils), ((5 : Nat), AVal.int IntKind.i64 (0 : Int)), ((7 : Nat), AVal.own (0 : Nat) (0 : Nat) q (0 : Nat) (1 : Nat)), ((8 : Nat), AVal.own (1 : Nat) (0 : Nat) t (0 : Nat) (1 : Nat)), ((9 : Nat), AVal.int IntKind.i64 c), ((10 : Nat), AVal.int IntKind.i64 a), ((36 : Nat), AVal.int IntKind.i64 (↑q : Int)), ((37 : Nat), AVal.int IntKind.i64 (IntKind.i64.wrap ((↑i : Int) + (1 : Int))))] [{ c := BC.typ (Cont.ints IntKind.i64 mt), ver := (0 : Nat) }, { c := BC.typ (Cont.ints IntKind.i64 ak), ver := (0 : Nat) }]) else none else none else none else none else L2 f n n2 (mkS (149 : Nat) [((0 : Nat), AVal.rom [AVal.ro (Cont.rows IntKind.i64 ls) m (1 : Nat), AVal.ro (Cont.rows IntKind.i64 rs) k (1 : Nat)] (0 : Nat)), ((1 : Nat), AVal.ro (Cont.ints IntKind.i64 ss) p (1 : Nat)), ((4 : Nat), AVal.nils), ((5 : Nat), AVal.int IntKind.i64 (0 : Int)), ((7 : Nat), AVal.own (0 : Nat) (0 : Nat) q (0 : Nat) (1 : Nat)), ((8 : Nat), AVal.own (1 : Nat) (0 : Nat) t (0 : Nat) (1 : Nat)), ((9 : Nat), AVal.int IntKind.i64 c), ((10 : Nat), AVal.int IntKind.i64 a), ((36 : Nat), AVal.int IntKind.i64 (↑q : Int)), ((37 : Nat), AVal.int IntKind.i64 (IntKind.i64.wrap ((↑i : Int) + (1 : Int))))] [{ c := BC.typ (Cont.ints IntKind.i64 mt), ver := (0 : Nat) }, { c := BC.typ (Cont.ints IntKind.i64 ak), ver := (0 : Nat) }]) else none else none else L2 f n n2 (mkS (149 : Nat) [((0 : Nat), AVal.rom [AVal.ro (Cont.rows IntKind.i64 ls) m (1 : Nat), AVal.ro (Cont.rows IntKind.i64 rs) k (1 : Nat)] (0 : Nat)), ((1 : Nat), AVal.ro (Cont.ints IntKind.i64 ss) p (1 : Nat)), ((4 : Nat), AVal.nils), ((5 : Nat), AVal.int IntKind.i64 (0 : Int)), ((7 : Nat), AVal.own (0 : Nat) (0 : Nat) q (0 : Nat) (1 : Nat)), ((8 : Nat), AVal.own (1 : Nat) (0 : Nat) t (0 : Nat) (1 : Nat)), ((9 : Nat), AVal.int IntKind.i64 c), ((10 : Nat), AVal.int IntKind.i64 a), ((36 : Nat), AVal.int IntKind.i64 (↑q : Int)), ((37 : Nat), AVal.int IntKind.i64 (IntKind.i64.wrap ((↑i : Int) + (1 : Int))))] [{ c := BC.typ (Cont.ints IntKind.i64 mt), ver := (0 : Nat) }, { c := BC.typ (Cont.ints IntKind.i64 ak), ver := (0 : Nat) }]) else bif decide (a < (0 : Int)) then some (AVal.tup [AVal.own (0 : Nat) (0 : Nat) q (0 : Nat) (1 : Nat), AVal.int IntKind.i64 c], [{ c := BC.typ (Cont.ints IntKind.i64 mt), ver := (0 : Nat) }]) else bif true && (decide ((0 : Int) ≤ a) && decide (a < (↑m : Int))) then bif decide (a.toNat < ls.length) then bif true && (decide ((0 : Int) ≤ a) && decide (a < (↑t : Int))) then bif true && decide (a.toNat < ak.length) then bif true && (decide ((0 : Int) ≤ gz ak a.toNat) && decide (gz ak a.toNat < (↑(gr ls a.toNat).length : Int))) then bif decide ((gz ak a.toNat).toNat < (gr ls a.toNat).length) then bif true && (decide ((0 : Int) ≤ a) && decide (a < (↑t : Int))) then bif true && decide (a.toNat < ak.length) then bif true && (decide ((0 : Int) ≤ a) && decide (a < (↑t : Int))) then bif true && (true && (decide (a.toNat < ak.length) && true)) then bif true && (decide ((0 : Int) ≤ gz (gr ls a.toNat) (gz ak a.toNat).toNat) && decide (gz (gr ls a.toNat) (gz ak a.toNat).toNat < (↑k : Int))) then bif decide ((gz (gr ls a.toNat) (gz ak a.toNat).toNat).toNat < rs.length) then bif decide ((gr rs (gz (gr ls a.toNat) (gz ak a.toNat).toNat).toNat).length = (gr rs (gz (gr ls a.toNat) (gz ak a.toNat).toNat).toNat).length ∧ (gr rs (gz (gr ls a.toNat) (gz ak a.toNat).toNat).toNat).length ≤ (4611686018427387904 : Nat)) && (true && (true && true) || true && true) then bif !(gr rs (gz (gr ls a.toNat) (gz ak a.toNat).toNat).toNat).any (has.sp a) then L1 f n (mkS (149 : Nat) [((0 : Nat), AVal.rom [AVal.ro (Cont.rows IntKind.i64 ls) m (1 : Nat), AVal.ro (Cont.rows IntKind.i64 rs) k (1 : Nat)] (0 : Nat)), ((1 : Nat), AVal.ro (Cont.ints IntKind.i64 ss) p (1 : Nat)), ((4 : Nat), AVal.nils), ((5 : Nat), AVal.int IntKind.i64 (0 : Int)), ((7 : Nat), AVal.own (0 : Nat) (0 : Nat) q (0 : Nat) (1 : Nat)), ((8 : Nat), AVal.own (1 : Nat) (0 : Nat) t (0 : Nat) (1 : Nat)), ((9 : Nat), AVal.int IntKind.i64 (IntKind.i64.wrap (c + (1 : Int))))] [{ c := BC.typ (Cont.ints IntKind.i64 mt), ver := (0 : Nat) }, { c := BC.typ (Cont.ints IntKind.i64 (ak.set a.toNat (IntKind.i64.wrap (gz ak a.toNat + (1 : Int))))), ver := (0 : Nat) }]) else bif true && (decide ((0 : Int) ≤ a) && decide (a < (↑q : Int))) then bif true && (true && (decide (a.toNat < mt.length) && true)) then L3 f n f (mkS (149 : Nat) [((0 : Nat), AVal.rom [AVal.ro (Cont.rows IntKind.i64 ls) m (1 : Nat), AVal.ro (Cont.rows IntKind.i64 rs) k (1 : Nat)] (0 : Nat)), ((1 : Nat), AVal.ro (Cont.ints IntKind.i64 ss) p (1 : Nat)), ((4 : Nat), AVal.nils), ((5 : Nat), AVal.int IntKind.i64 (0 : Int)), ((7 : Nat), AVal.own (0 : Nat) (0 : Nat) q (0 : Nat) (1 : Nat)), ((8 : Nat), AVal.own (1 : Nat) (0 : Nat) t (0 : Nat) (1 : Nat)), ((9 : Nat), AVal.int IntKind.i64 (IntKind.i64.wrap (c + (1 : Int)))), ((12 : Nat), AVal.int IntKind.i64 (gz (gr ls a.toNat) (gz ak a.toNat).toNat)), ((13 : Nat), AVal.int IntKind.i64 (0 : Int)), ((14 : Nat), AVal.int IntKind.i64 a), ((107 : Nat), AVal.int IntKind.i64 (↑q : Int)), ((108 : Nat), AVal.int IntKind.i64 (0 : Int))] [{ c := BC.typ (Cont.ints IntKind.i64 (mt.set a.toNat (gz (gr ls a.toNat) (gz ak a.toNat).toNat))), ver := (0 : Nat) }, { c := BC.typ (Cont.ints IntKind.i64 (ak.set a.toNat (IntKind.i64.wrap (gz ak a.toNat + (1 : Int))))), ver := (0 : Nat) }]) else none else none else none else none else none else none else none else none else none else none else none else none else none else none else none) := by kernel_rfl
theorem round3 (ls rs : List (List Int)) (ss : List Int) (m k p : Nat) (mt ak : List Int) (q t : Nat) (c b h w : Int) (i f n n2 : Nat) :
  L3 f n (n2 + 1) (mkS 149 [(0, .rom [.ro (.rows .i64 ls) m 1, .ro (.rows .i64 rs) k 1] 0), (1, .ro (.ints .i64 ss) p 1), (4, .nils), (5, .int .i64 0), (7, .own 0 0 q 0 1), (8, .own 1 0 t 0 1), (9, .int .i64 c), (12, .int .i64 b), (13, .int .i64 h), (14, .int .i64 w), (107, .int .i64 q), (108, .int .i64 (i : Nat))] [⟨.typ (.ints .i64 mt), 0⟩, ⟨.typ (.ints .i64 ak), 0⟩])
  = (bif decide ((↑i : Int) < (↑q : Int)) then bif true && (decide ((0 : Int) ≤ (↑i : Int)) && decide ((↑i : Int) < (↑q : Int))) then bif true && decide ((↑i : Int).toNat < mt.length) then bif gz mt (↑i : Int).toNat == b then bif true && (decide ((0 : Int) ≤ b) && decide (b < (↑k : Int))) then bif decide (b.toNat < rs.length) then bif true && (decide ((0 : Int) ≤ b) && decide (b < (↑k : Int))) then bif decide (b.toNat < rs.length) then bif decide ((gr rs b.toNat).length = (gr rs b.toNat).length ∧ (gr rs b.toNat).length ≤ (4611686018427387904 : Nat)) && (true && (true && true) || true && true) then bif decide ((gr rs b.toNat).length = (gr rs b.toNat).length ∧ (gr rs b.toNat).length ≤ (4611686018427387904 : Nat)) && (true && (true && true) || true && true) then bif decide (pl.sv w (gr rs b.toNat) < pl.sv (↑i : Int) (gr rs b.toNat)) then L3 f n n2 (mkS (149 : Nat) [((0 : Nat), AVal.rom [AVal.ro (Cont.rows IntKind.i64 ls) m (1 : Nat), AVal.ro (Cont.rows IntKind.i64 rs) k (1 : Nat)] (0 : Nat)), ((1 : Nat), AVal.ro (Cont.ints IntKind.i64 ss) p (1 : Nat)), ((4 : Nat), AVal.nils), ((5 : Nat), AVal.int IntKind.i64 (0 : Int)), ((7 : Nat), AVal.own (0 : Nat) (0 : Nat) q (0 : Nat) (1 : Nat)), ((8 : Nat), AVal.own (1 : Nat) (0 : Nat) t (0 : Nat) (1 : Nat)), ((9 : Nat), AVal.int IntKind.i64 c), ((12 : Nat), AVal.int IntKind.i64 b), ((13 : Nat), AVal.int IntKind.i64 (IntKind.i64.wrap (h + (1 : Int)))), ((14 : Nat), AVal.int IntKind.i64 (↑i : Int)), ((107 : Nat), AVal.int IntKind.i64 (↑q : Int)), ((108 : Nat), AVal.int IntKind.i64 (IntKind.i64.wrap ((↑i : Int) + (1 : Int))))] [{ c := BC.typ (Cont.ints IntKind.i64 mt), ver := (0 : Nat) }, { c := BC.typ (Cont.ints IntKind.i64 ak), ver := (0 : Nat) }]) else L3 f n n2 (mkS (149 : Nat) [((0 : Nat), AVal.rom [AVal.ro (Cont.rows IntKind.i64 ls) m (1 : Nat), AVal.ro (Cont.rows IntKind.i64 rs) k (1 : Nat)] (0 : Nat)), ((1 : Nat), AVal.ro (Cont.ints IntKind.i64 ss) p (1 : Nat)), ((4 : Nat), AVal.nils), ((5 : Nat), AVal.int IntKind.i64 (0 : Int)), ((7 : Nat), AVal.own (0 : Nat) (0 : Nat) q (0 : Nat) (1 : Nat)), ((8 : Nat), AVal.own (1 : Nat) (0 : Nat) t (0 : Nat) (1 : Nat)), ((9 : Nat), AVal.int IntKind.i64 c), ((12 : Nat), AVal.int IntKind.i64 b), ((13 : Nat), AVal.int IntKind.i64 (IntKind.i64.wrap (h + (1 : Int)))), ((14 : Nat), AVal.int IntKind.i64 w), ((107 : Nat), AVal.int IntKind.i64 (↑q : Int)), ((108 : Nat), AVal.int IntKind.i64 (IntKind.i64.wrap ((↑i : Int) + (1 : Int))))] [{ c := BC.typ (Cont.ints IntKind.i64 mt), ver := (0 : Nat) }, { c := BC.typ (Cont.ints IntKind.i64 ak), ver := (0 : Nat) }]) else none else none else none else none else none else none else L3 f n n2 (mkS (149 : Nat) [((0 : Nat), AVal.rom [AVal.ro (Cont.rows IntKind.i64 ls) m (1 : Nat), AVal.ro (Cont.rows IntKind.i64 rs) k (1 : Nat)] (0 : Nat)), ((1 : Nat), AVal.ro (Cont.ints IntKind.i64 ss) p (1 : Nat)), ((4 : Nat), AVal.nils), ((5 : Nat), AVal.int IntKind.i64 (0 : Int)), ((7 : Nat), AVal.own (0 : Nat) (0 : Nat) q (0 : Nat) (1 : Nat)), ((8 : Nat), AVal.own (1 : Nat) (0 : Nat) t (0 : Nat) (1 : Nat)), ((9 : Nat), AVal.int IntKind.i64 c), ((12 : Nat), AVal.int IntKind.i64 b), ((13 : Nat), AVal.int IntKind.i64 h), ((14 : Nat), AVal.int IntKind.i64 w), ((107 : Nat), AVal.int IntKind.i64 (↑q : Int)), ((108 : Nat), AVal.int IntKind.i64 (IntKind.i64.wrap ((↑i : Int) + (1 : Int))))] [{ c := BC.typ (Cont.ints IntKind.i64 mt), ver := (0 : Nat) }, { c := BC.typ (Cont.ints IntKind.i64 ak), ver := (0 : Nat) }]) else none else none else bif true && (decide ((0 : Int) ≤ b) && decide (b < (↑p : Int))) then bif decide (b.toNat < ss.length) then bif decide (gz ss b.toNat < h) then bif true && (decide ((0 : Int) ≤ w) && decide (w < (↑q : Int))) then bif true && (true && (decide (w.toNat < mt.length) && true)) then L1 f n (mkS (149 : Nat) [((0 : Nat), AVal.rom [AVal.ro (Cont.rows IntKind.i64 ls) m (1 : Nat), AVal.ro (Cont.rows IntKind.i64 rs) k (1 : Nat)] (0 : Nat)), ((1 : Nat), AVal.ro (Cont.ints IntKind.i64 ss) p (1 : Nat)), ((4 : Nat), AVal.nils), ((5 : Nat), AVal.int IntKind.i64 (0 : Int)), ((7 : Nat), AVal.own (0 : Nat) (0 : Nat) q (0 : Nat) (1 : Nat)), ((8 : Nat), AVal.own (1 : Nat) (0 : Nat) t (0 : Nat) (1 : Nat)), ((9 : Nat), AVal.int IntKind.i64 c)] [{ c := BC.typ (Cont.ints IntKind.i64 (mt.set w.toNat (-1 : Int))), ver := (0 : Nat) }, { c := BC.typ (Cont.ints IntKind.i64 ak), ver := (0 : Nat) }]) else none else none else L1 f n (mkS (149 : Nat) [((0 : Nat), AVal.rom [AVal.ro (Cont.rows IntKind.i64 ls) m (1 : Nat), AVal.ro (Cont.rows IntKind.i64 rs) k (1 : Nat)] (0 : Nat)), ((1 : Nat), AVal.ro (Cont.ints IntKind.i64 ss) p (1 : Nat)), ((4 : Nat), AVal.nils), ((5 : Nat), AVal.int IntKind.i64 (0 : Int)), ((7 : Nat), AVal.own (0 : Nat) (0 : Nat) q (0 : Nat) (1 : Nat)), ((8 : Nat), AVal.own (1 : Nat) (0 : Nat) t (0 : Nat) (1 : Nat)), ((9 : Nat), AVal.int IntKind.i64 c)] [{ c := BC.typ (Cont.ints IntKind.i64 mt), ver := (0 : Nat) }, { c := BC.typ (Cont.ints IntKind.i64 ak), ver := (0 : Nat) }]) else none else none) := by kernel_rfl
end l05Ask

theorem tot_get : ∀ {xs : List (List Int)} {j : Nat}, j < xs.length → (gr xs j).length ≤ tot.sv xs := by
  intro xs
  induction xs with
  | nil => intro j h; simp at h
  | cons x r ih =>
    intro j h
    cases j with
    | zero => simp [gr, tot.sv]
    | succ j =>
      have := ih (j := j) (by simpa using h)
      have e : gr (x :: r) (j + 1) = gr r j := by simp [gr]
      have e2 : tot.sv (x :: r) = x.length + tot.sv r := by simp [tot.sv]
      rw [e, e2]; omega
namespace l05Ask
theorem loop0 (ls rs : List (List Int)) (ss : List Int) (m k p : Nat) (f : Nat) (hm : m ≤ 1000) : ∀ (d i n : Nat), i + d = m → d < n →
    L0 f n (mkS 149 [(0, .rom [.ro (.rows .i64 ls) m 1, .ro (.rows .i64 rs) k 1] 0), (1, .ro (.ints .i64 ss) p 1), (4, .nils), (5, .int .i64 0), (6, .int .i64 m), (7, .own 0 0 i 0 1), (26, .int .i64 m), (27, .int .i64 i)] [⟨.typ (.ints .i64 (List.replicate i (-1))), 0⟩]) = L0 f 1 (mkS 149 [(0, .rom [.ro (.rows .i64 ls) m 1, .ro (.rows .i64 rs) k 1] 0), (1, .ro (.ints .i64 ss) p 1), (4, .nils), (5, .int .i64 0), (6, .int .i64 m), (7, .own 0 0 m 0 1), (26, .int .i64 m), (27, .int .i64 m)] [⟨.typ (.ints .i64 (List.replicate m (-1))), 0⟩]) := by
  intro d
  induction d with
  | zero =>
    intro i n hi hn
    obtain ⟨n, rfl⟩ : ∃ k, n = k + 1 := ⟨n - 1, by omega⟩
    obtain rfl : i = m := by omega
    have h := round0 ls rs ss i k p (List.replicate i (-1)) i f n
    have h' := round0 ls rs ss i k p (List.replicate i (-1)) i f 0
    rw [List.length_replicate] at h h'
    rw [h, h']
    simp -implicitDefEqProofs only [Int.lt_irrefl, and_self, decide_true, decide_false, Bool.and_self, Bool.or_self, Bool.and_true, Bool.true_and, Bool.and_false, Bool.false_and, Bool.or_true, Bool.true_or, Bool.or_false, Bool.false_or, Bool.not_true, Bool.not_false, cond_true, cond_false]
  | succ d ih =>
    intro i n hi hn
    obtain ⟨n, rfl⟩ : ∃ k, n = k + 1 := ⟨n - 1, by omega⟩
    have h5 : (i : Int) < (m : Int) := by omega
    have hih := ih (i + 1) n (by omega) (by omega)
    have e : List.replicate (i + 1) (-1 : Int) = List.replicate i (-1) ++ [-1] := by rw [List.replicate_succ']
    have one : (List.replicate 1 (0 : Int)).set 0 (-1) = [-1] := rfl
    have k0 : i + 1 ≤ 4611686018427387904 := by omega
    have k1 : (i + 1) * 8 ≤ 140737488355328 := by omega
    have tk : List.take i (List.replicate i (-1 : Int)) = List.replicate i (-1) := List.take_of_length_le (by rw [List.length_replicate]; exact Nat.le_refl i)
    have h := round0 ls rs ss m k p (List.replicate i (-1)) i f n
    rw [List.length_replicate] at h
    rw [e] at hih
    rw [← hih, h]
    simp -implicitDefEqProofs only [h5, tk, k0, k1, one, List.drop_zero, List.take_succ_cons, List.take_zero, Nat.reduceBEq, wrap_nat i (by omega), and_self, decide_true, decide_false, Bool.and_self, Bool.or_self, Bool.and_true, Bool.true_and, Bool.and_false, Bool.false_and, Bool.or_true, Bool.true_or, Bool.or_false, Bool.false_or, Bool.not_true, Bool.not_false, cond_true, cond_false]
theorem loop2 (ls rs : List (List Int)) (ss : List Int) (m k p : Nat) (mt ak : List Int) (c : Int) (f n : Nat) (I : ask.Inv ls rs mt ak) (hm : m = ls.length) : ∀ (d i n2 : Nat) (a : Int), (a = -1 ∨ 0 ≤ a) → i + d = m → d < n2 →
    L2 f n n2 (mkS 149 [(0, .rom [.ro (.rows .i64 ls) m 1, .ro (.rows .i64 rs) k 1] 0), (1, .ro (.ints .i64 ss) p 1), (4, .nils), (5, .int .i64 0), (7, .own 0 0 m 0 1), (8, .own 1 0 m 0 1), (9, .int .i64 c), (10, .int .i64 (a)), (36, .int .i64 m), (37, .int .i64 i)] [⟨.typ (.ints .i64 mt), 0⟩, ⟨.typ (.ints .i64 ak), 0⟩]) = L2 f n 1 (mkS 149 [(0, .rom [.ro (.rows .i64 ls) m 1, .ro (.rows .i64 rs) k 1] 0), (1, .ro (.ints .i64 ss) p 1), (4, .nils), (5, .int .i64 0), (7, .own 0 0 m 0 1), (8, .own 1 0 m 0 1), (9, .int .i64 c), (10, .int .i64 (bif decide (a < 0) then fidx.sq (ask.fp.sp ls mt ak) ((cq.sv m).drop i) i else a)), (36, .int .i64 m), (37, .int .i64 m)] [⟨.typ (.ints .i64 mt), 0⟩, ⟨.typ (.ints .i64 ak), 0⟩]) := by
  have hm8 := I.n8
  have hmt := I.lm
  have hak := I.la
  intro d
  induction d with
  | zero =>
    intro i n2 a ha hi hn
    obtain ⟨n2, rfl⟩ : ∃ k, n2 = k + 1 := ⟨n2 - 1, by omega⟩
    obtain rfl : i = m := by omega
    have e : (cq.sv i).drop i = [] := List.drop_of_length_le (by rw [cq.sv_length]; omega)
    have e2 : (bif decide (a < 0) then (-1) else a) = a := by
      rcases ha with rfl | ha
      · rfl
      · have : ¬ a < 0 := by omega
        simp -implicitDefEqProofs only [this, and_self, decide_true, decide_false, Bool.and_self, Bool.or_self, Bool.and_true, Bool.true_and, Bool.and_false, Bool.false_and, Bool.or_true, Bool.true_or, Bool.or_false, Bool.false_or, Bool.not_true, Bool.not_false, cond_true, cond_false]
    have h := round2 ls rs ss i k p mt ak i i c a i f n n2
    have h' := round2 ls rs ss i k p mt ak i i c a i f n 0
    rw [e]
    simp -implicitDefEqProofs only [fidx.sq]
    rw [e2, h, h']
    simp -implicitDefEqProofs only [Int.lt_irrefl, and_self, decide_true, decide_false, Bool.and_self, Bool.or_self, Bool.and_true, Bool.true_and, Bool.and_false, Bool.false_and, Bool.or_true, Bool.true_or, Bool.or_false, Bool.false_or, Bool.not_true, Bool.not_false, cond_true, cond_false]
  | succ d ih =>
    intro i n2 a ha hi hn
    obtain ⟨n2, rfl⟩ : ∃ k, n2 = k + 1 := ⟨n2 - 1, by omega⟩
    have h4 : (0 : Int) ≤ (i : Int) := Int.natCast_nonneg _
    have h5 : (i : Int) < (m : Int) := by omega
    have x1 : i < mt.length := by omega
    have x2 : i < ak.length := by omega
    have x3 : i < ls.length := by omega
    have x4 : ¬ ((i : Int) < 0) := by omega
    have h := round2 ls rs ss m k p mt ak m m c a i f n n2
    have hcq : (cq.sv m).drop i = (i : Int) :: (cq.sv m).drop (i + 1) := cq.sv_drop (by omega)
    rw [h, hcq]
    simp -implicitDefEqProofs only [fidx.sq, ask.fp.sp, h4, h5, x1, x2, x3, Int.toNat_natCast, wrap_nat i (by omega), and_self, decide_true, decide_false, Bool.and_self, Bool.or_self, Bool.and_true, Bool.true_and, Bool.and_false, Bool.false_and, Bool.or_true, Bool.true_or, Bool.or_false, Bool.false_or, Bool.not_true, Bool.not_false, cond_true, cond_false]
    rcases ha with rfl | ha
    · have hneg : ((-1 : Int) < 0) := by decide
      have hih := ih (i + 1) n2 (-1) (.inl rfl) (by omega) (by omega)
      have hih2 := ih (i + 1) n2 (i : Int) (.inr h4) (by omega) (by omega)
      simp -implicitDefEqProofs only [hneg, x4, and_self, decide_true, decide_false, Bool.and_self, Bool.or_self, Bool.and_true, Bool.true_and, Bool.and_false, Bool.false_and, Bool.or_true, Bool.true_or, Bool.or_false, Bool.false_or, Bool.not_true, Bool.not_false, cond_true, cond_false] at hih hih2
      simp -implicitDefEqProofs only [hneg, and_self, decide_true, decide_false, Bool.and_self, Bool.or_self, Bool.and_true, Bool.true_and, Bool.and_false, Bool.false_and, Bool.or_true, Bool.true_or, Bool.or_false, Bool.false_or, Bool.not_true, Bool.not_false, cond_true, cond_false]
      by_cases c1 : gz mt i < 0
      · by_cases c2 : gz ak i < ((gr ls i).length : Int)
        · simp -implicitDefEqProofs only [c1, c2, and_self, decide_true, decide_false, Bool.and_self, Bool.or_self, Bool.and_true, Bool.true_and, Bool.and_false, Bool.false_and, Bool.or_true, Bool.true_or, Bool.or_false, Bool.false_or, Bool.not_true, Bool.not_false, cond_true, cond_false]; exact hih2
        · simp -implicitDefEqProofs only [c1, c2, and_self, decide_true, decide_false, Bool.and_self, Bool.or_self, Bool.and_true, Bool.true_and, Bool.and_false, Bool.false_and, Bool.or_true, Bool.true_or, Bool.or_false, Bool.false_or, Bool.not_true, Bool.not_false, cond_true, cond_false]; exact hih
      · simp -implicitDefEqProofs only [c1, and_self, decide_true, decide_false, Bool.and_self, Bool.or_self, Bool.and_true, Bool.true_and, Bool.and_false, Bool.false_and, Bool.or_true, Bool.true_or, Bool.or_false, Bool.false_or, Bool.not_true, Bool.not_false, cond_true, cond_false]; exact hih
    · have hneg : ¬ (a < 0) := by omega
      have hih := ih (i + 1) n2 a (.inr ha) (by omega) (by omega)
      simp -implicitDefEqProofs only [hneg, and_self, decide_true, decide_false, Bool.and_self, Bool.or_self, Bool.and_true, Bool.true_and, Bool.and_false, Bool.false_and, Bool.or_true, Bool.true_or, Bool.or_false, Bool.false_or, Bool.not_true, Bool.not_false, cond_true, cond_false] at hih
      simp -implicitDefEqProofs only [hneg, and_self, decide_true, decide_false, Bool.and_self, Bool.or_self, Bool.and_true, Bool.true_and, Bool.and_false, Bool.false_and, Bool.or_true, Bool.true_or, Bool.or_false, Bool.false_or, Bool.not_true, Bool.not_false, cond_true, cond_false]
      exact hih
theorem loop3 (ls rs : List (List Int)) (ss : List Int) (m k p : Nat) (mt ak : List Int) (c b : Int) (f n : Nat) (hl : mt.length = m) (h1000 : m ≤ 1000) (hb0 : 0 ≤ b) (hbk : b < (k : Int)) (hk : k = rs.length) (hrow : (gr rs b.toNat).length ≤ 4611686018427387904) : ∀ (d i n2 : Nat) (h w : Int), 0 ≤ h → h + (d : Int) ≤ 1000 → i + d = m → d < n2 →
    L3 f n n2 (mkS 149 [(0, .rom [.ro (.rows .i64 ls) m 1, .ro (.rows .i64 rs) k 1] 0), (1, .ro (.ints .i64 ss) p 1), (4, .nils), (5, .int .i64 0), (7, .own 0 0 m 0 1), (8, .own 1 0 m 0 1), (9, .int .i64 c), (12, .int .i64 b), (13, .int .i64 (h)), (14, .int .i64 (w)), (107, .int .i64 m), (108, .int .i64 i)] [⟨.typ (.ints .i64 mt), 0⟩, ⟨.typ (.ints .i64 ak), 0⟩]) = L3 f n 1 (mkS 149 [(0, .rom [.ro (.rows .i64 ls) m 1, .ro (.rows .i64 rs) k 1] 0), (1, .ro (.ints .i64 ss) p 1), (4, .nils), (5, .int .i64 0), (7, .own 0 0 m 0 1), (8, .own 1 0 m 0 1), (9, .int .i64 c), (12, .int .i64 b), (13, .int .i64 (ask.hc.go b (mt.drop i) h)), (14, .int .i64 (ask.wo.go (gr rs b.toNat) b (mt.drop i) i w)), (107, .int .i64 m), (108, .int .i64 m)] [⟨.typ (.ints .i64 mt), 0⟩, ⟨.typ (.ints .i64 ak), 0⟩]) := by
  intro d
  induction d with
  | zero =>
    intro i n2 h w hh0 hh1 hi hn
    obtain ⟨n2, rfl⟩ : ∃ k, n2 = k + 1 := ⟨n2 - 1, by omega⟩
    obtain rfl : i = m := by omega
    have e : mt.drop i = [] := List.drop_of_length_le (by omega)
    have h1 := round3 ls rs ss i k p mt ak i i c b h w i f n n2
    have h2 := round3 ls rs ss i k p mt ak i i c b h w i f n 0
    rw [e]
    simp -implicitDefEqProofs only [ask.hc.go, ask.wo.go]
    rw [h1, h2]
    simp -implicitDefEqProofs only [Int.lt_irrefl, and_self, decide_true, decide_false, Bool.and_self, Bool.or_self, Bool.and_true, Bool.true_and, Bool.and_false, Bool.false_and, Bool.or_true, Bool.true_or, Bool.or_false, Bool.false_or, Bool.not_true, Bool.not_false, cond_true, cond_false]
  | succ d ih =>
    intro i n2 h w hh0 hh1 hi hn
    obtain ⟨n2, rfl⟩ : ∃ k, n2 = k + 1 := ⟨n2 - 1, by omega⟩
    have h4 : (0 : Int) ≤ (i : Int) := Int.natCast_nonneg _
    have h5 : (i : Int) < (m : Int) := by omega
    have x1 : i < mt.length := by omega
    have x2 : b.toNat < rs.length := by omega
    have w1 : IntKind.i64.wrap (h + 1) = h + 1 := IntWalk.i64_in _ (by omega)
    have hd : mt.drop i = gz mt i :: mt.drop (i + 1) := by rw [gz_eq x1]; exact List.drop_eq_getElem_cons x1
    have h1 := round3 ls rs ss m k p mt ak m m c b h w i f n n2
    have e : ∀ x y : Int, (x == y) = decide (x = y) := fun _ _ => rfl
    rw [h1, hd]
    simp -implicitDefEqProofs only [ask.hc.go, ask.wo.go, h4, h5, x1, x2, hb0, hbk, hrow, w1, e, Int.toNat_natCast, wrap_nat i (by omega), and_self, decide_true, decide_false, Bool.and_self, Bool.or_self, Bool.and_true, Bool.true_and, Bool.and_false, Bool.false_and, Bool.or_true, Bool.true_or, Bool.or_false, Bool.false_or, Bool.not_true, Bool.not_false, cond_true, cond_false]
    by_cases c1 : gz mt i = b
    · by_cases c2 : pl.sv w (gr rs b.toNat) < pl.sv (i : Int) (gr rs b.toNat)
      · simp -implicitDefEqProofs only [c1, c2, and_self, decide_true, decide_false, Bool.and_self, Bool.or_self, Bool.and_true, Bool.true_and, Bool.and_false, Bool.false_and, Bool.or_true, Bool.true_or, Bool.or_false, Bool.false_or, Bool.not_true, Bool.not_false, cond_true, cond_false]; exact ih (i + 1) n2 (h + 1) (i : Int) (by omega) (by omega) (by omega) (by omega)
      · simp -implicitDefEqProofs only [c1, c2, and_self, decide_true, decide_false, Bool.and_self, Bool.or_self, Bool.and_true, Bool.true_and, Bool.and_false, Bool.false_and, Bool.or_true, Bool.true_or, Bool.or_false, Bool.false_or, Bool.not_true, Bool.not_false, cond_true, cond_false]; exact ih (i + 1) n2 (h + 1) w (by omega) (by omega) (by omega) (by omega)
    · simp -implicitDefEqProofs only [c1, and_self, decide_true, decide_false, Bool.and_self, Bool.or_self, Bool.and_true, Bool.true_and, Bool.and_false, Bool.false_and, Bool.or_true, Bool.true_or, Bool.or_false, Bool.false_or, Bool.not_true, Bool.not_false, cond_true, cond_false]; exact ih (i + 1) n2 h w (by omega) (by omega) (by omega) (by omega)
theorem go_succ {ls rs : List (List Int)} {ss mt ak : List Int} {c : Int} {j : Nat} (d : Nat) (h : ask.fi.sv ls mt ak = (j : Int)) : ask.go ls rs ss (d + 1) mt ak c = ask.go ls rs ss d (ask.m2.sv rs ss mt (ask.bw.sv ls ak (j : Int)) (j : Int)) (ask.nk.sv ak (j : Int)) (c + 1) := by
  have : ¬ ((j : Int) < 0) := by omega
  simp only [ask.go, h, this, decide_false, cond_false]
theorem loop1 (ls rs : List (List Int)) (ss : List Int) (f : Nat) (hf : ls.length < f) (hp : ss.length = ls.length) (hs1 : short.sp 4611686018427387904 ls = true) (hs2 : short.sp 4611686018427387904 rs = true) (ht : tot.sv ls ≤ 1000000000) : ∀ (d n : Nat) (mt ak : List Int) (c : Int), ask.Inv ls rs mt ak → (tot.sv ls : Int) + 1 ≤ ak.sum + (d : Int) → c = ak.sum → 0 ≤ c → d < n →
    L1 f n (mkS 149 [(0, .rom [.ro (.rows .i64 ls) ls.length 1, .ro (.rows .i64 rs) rs.length 1] 0), (1, .ro (.ints .i64 ss) ss.length 1), (4, .nils), (5, .int .i64 0), (7, .own 0 0 ls.length 0 1), (8, .own 1 0 ls.length 0 1), (9, .int .i64 (c))] [⟨.typ (.ints .i64 (mt)), 0⟩, ⟨.typ (.ints .i64 (ak)), 0⟩]) = some (.tup [.own 0 0 ls.length 0 1, .int .i64 (ask.go ls rs ss d mt ak c).2], [⟨.typ (.ints .i64 (ask.go ls rs ss d mt ak c).1), 0⟩]) := by
  intro d
  induction d with
  | zero =>
    intro n mt ak c I hd hc h0 hn
    have := ask.sum_le ak ls I.la (fun j hj => (I.ab j hj).2)
    omega
  | succ d ih =>
    intro n mt ak c I hd hc h0 hn
    obtain ⟨n, rfl⟩ : ∃ k, n = k + 1 := ⟨n - 1, by omega⟩
    have hsum := ask.sum_le ak ls I.la (fun j hj => (I.ab j hj).2)
    have h8 := I.n8
    have h2 := loop2 ls rs ss ls.length rs.length ss.length mt ak c f n I rfl ls.length 0 f (-1) (.inl rfl) (by omega) hf
    have hfi : (bif decide ((-1:Int) < 0) then fidx.sq (ask.fp.sp ls mt ak) ((cq.sv ls.length).drop 0) 0 else -1) = ask.fi.sv ls mt ak := by rw [List.drop_zero]; rfl
    rw [hfi] at h2
    rw [round1]
    refine Eq.trans h2 ?_
    rcases ask.fi_cases ls mt ak with hneg | ⟨j, hj, hfe, hmj, haj⟩
    · rw [round2]
      simp -implicitDefEqProofs only [Int.lt_irrefl, hneg, ask.go, and_self, decide_true, decide_false, Bool.and_self, Bool.or_self, Bool.and_true, Bool.true_and, Bool.and_false, Bool.false_and, Bool.or_true, Bool.true_or, Bool.or_false, Bool.false_or, Bool.not_true, Bool.not_false, cond_true, cond_false]
    · obtain ⟨hb, I', hsm, hset⟩ := ask.step (ss := ss) I hj hmj haj
      rw [go_succ d hfe]
      have eb : ask.bw.sv ls ak (j : Int) = gz (gr ls j) (gz ak j).toNat := by unfold ask.bw.sv; rw [Int.toNat_natCast]
      have enk : ask.nk.sv ak (j : Int) = ak.set j (gz ak j + 1) := by unfold ask.nk.sv; rw [Int.toNat_natCast]
      rw [hfe, round2]
      obtain ⟨b, hbb⟩ : ∃ b, ask.bw.sv ls ak (j : Int) = b := ⟨_, rfl⟩
      have hbe : gz (gr ls j) (gz ak j).toNat = b := eb.symm.trans hbb
      rw [hbb] at hb I' hset ⊢
      rw [enk] at I' hsm ⊢
      have h4 : (0 : Int) ≤ (j : Int) := Int.natCast_nonneg _
      have h5 : (j : Int) < (ls.length : Int) := by omega
      have h6 : ¬ ((j : Int) < 0) := by omega
      have x1 : j < mt.length := by rw [I.lm]; exact hj
      have x2 : j < ak.length := by rw [I.la]; exact hj
      have a0 := (I.ab j hj).1
      have y1 : (gz ak j).toNat < (gr ls j).length := by omega
      have hkl : (rs.length : Int) = (ls.length : Int) := by have := I.nr; omega
      have y2 : b < (rs.length : Int) := by omega
      have y3 : b.toNat < rs.length := by omega
      have y4 : (gr rs b.toNat).length ≤ 4611686018427387904 := by rw [gr_eq y3]; exact short_get hs2 y3
      have lj : (gr ls j).length ≤ tot.sv ls := tot_get hj
      have w1 : IntKind.i64.wrap (gz ak j + 1) = gz ak j + 1 := IntWalk.i64_in _ (by omega)
      have w2 : IntKind.i64.wrap (c + 1) = c + 1 := IntWalk.i64_in _ (by omega)
      simp -implicitDefEqProofs only [Int.lt_irrefl, Int.toNat_natCast, hbe, h4, h5, h6, hj, x1, x2, a0, haj, y1, hb.1, y2, y3, y4, w1, w2, and_self, decide_true, decide_false, Bool.and_self, Bool.or_self, Bool.and_true, Bool.true_and, Bool.and_false, Bool.false_and, Bool.or_true, Bool.true_or, Bool.or_false, Bool.false_or, Bool.not_true, Bool.not_false, cond_true, cond_false]
      rcases Bool.eq_false_or_eq_true ((gr rs b.toNat).any (has.sp (j : Int))) with hta | hta
      · have h3 := loop3 ls rs ss ls.length rs.length ss.length (mt.set j b) (ak.set j (gz ak j + 1)) (c + 1) b f n (by rw [List.length_set]; exact I.lm) (by omega) hb.1 y2 rfl y4 ls.length 0 f 0 (j : Int) (by omega) (by omega) (by omega) hf
        have ehc : ask.hc.go b ((mt.set j b).drop 0) 0 = ask.hc.sv b (mt.set j b) := by rw [List.drop_zero]; rfl
        have ewo : ask.wo.go (gr rs b.toNat) b ((mt.set j b).drop 0) 0 (j : Int) = ask.wo.sv (gr rs b.toNat) b (mt.set j b) (j : Int) := by rw [List.drop_zero]; rfl
        rw [ehc, ewo] at h3
        have hm2 : ask.m2.sv rs ss mt b (j : Int) = bif decide (gz ss b.toNat < ask.hc.sv b (mt.set j b)) then (mt.set j b).set (ask.wo.sv (gr rs b.toNat) b (mt.set j b) (j : Int)).toNat (-1) else mt.set j b := by
          unfold ask.m2.sv
          rw [Int.toNat_natCast, hta, cond_true]
        have hwi := ask.wo_in (row := gr rs b.toNat) (b := b) (mt := mt.set j b) (j := j) (by rw [List.length_set]; exact x1)
        have lms : (mt.set j b).length = ls.length := by rw [List.length_set]; exact I.lm
        rw [lms] at hwi
        have z1 : (ask.wo.sv (gr rs b.toNat) b (mt.set j b) (j : Int)).toNat < ls.length := by omega
        have z2 : b.toNat < ls.length := by omega
        have ihh := ih n _ _ (c + 1) I' (by rw [hsm]; omega) (by rw [hsm, hc]) (by omega) (by omega)
        simp -implicitDefEqProofs only [hta, and_self, decide_true, decide_false, Bool.and_self, Bool.or_self, Bool.and_true, Bool.true_and, Bool.and_false, Bool.false_and, Bool.or_true, Bool.true_or, Bool.or_false, Bool.false_or, Bool.not_true, Bool.not_false, cond_true, cond_false]
        refine Eq.trans h3 ?_
        rw [round3]
        rw [hm2] at ihh ⊢
        by_cases cc : gz ss b.toNat < ask.hc.sv b (mt.set j b)
        · simp -implicitDefEqProofs only [cc, hp, and_self, decide_true, decide_false, Bool.and_self, Bool.or_self, Bool.and_true, Bool.true_and, Bool.and_false, Bool.false_and, Bool.or_true, Bool.true_or, Bool.or_false, Bool.false_or, Bool.not_true, Bool.not_false, cond_true, cond_false] at ihh
          simp -implicitDefEqProofs only [Int.lt_irrefl, cc, hb.1, hb.2, hp, z1, z2, hwi.1, hwi.2, lms, and_self, decide_true, decide_false, Bool.and_self, Bool.or_self, Bool.and_true, Bool.true_and, Bool.and_false, Bool.false_and, Bool.or_true, Bool.true_or, Bool.or_false, Bool.false_or, Bool.not_true, Bool.not_false, cond_true, cond_false]
          exact ihh
        · simp -implicitDefEqProofs only [cc, hp, and_self, decide_true, decide_false, Bool.and_self, Bool.or_self, Bool.and_true, Bool.true_and, Bool.and_false, Bool.false_and, Bool.or_true, Bool.true_or, Bool.or_false, Bool.false_or, Bool.not_true, Bool.not_false, cond_true, cond_false] at ihh
          simp -implicitDefEqProofs only [Int.lt_irrefl, cc, hb.1, hb.2, hp, z1, z2, hwi.1, hwi.2, lms, and_self, decide_true, decide_false, Bool.and_self, Bool.or_self, Bool.and_true, Bool.true_and, Bool.and_false, Bool.false_and, Bool.or_true, Bool.true_or, Bool.or_false, Bool.false_or, Bool.not_true, Bool.not_false, cond_true, cond_false]
          exact ihh
      · have hm2 : ask.m2.sv rs ss mt b (j : Int) = mt := by
          unfold ask.m2.sv
          rw [Int.toNat_natCast, hta, cond_false]
        have ihh := ih n _ _ (c + 1) I' (by rw [hsm]; omega) (by rw [hsm, hc]) (by omega) (by omega)
        simp -implicitDefEqProofs only [hta, and_self, decide_true, decide_false, Bool.and_self, Bool.or_self, Bool.and_true, Bool.true_and, Bool.and_false, Bool.false_and, Bool.or_true, Bool.true_or, Bool.or_false, Bool.false_or, Bool.not_true, Bool.not_false, cond_true, cond_false]
        rw [hm2] at ihh ⊢
        exact ihh
def R : List AVal → Option (Bool × AVal × List Blk)
  | [.rom [.ro (.rows .i64 ls) m 1, .ro (.rows .i64 rs) k 1] 0, .ro (.ints .i64 ss) p 1] => some (decide (m = ls.length ∧ k = rs.length ∧ p = ss.length ∧ p = m ∧ tot.sv ls ≤ 1000000000) && (vw.sp ls rs && (short.sp 4611686018427387904 ls && short.sp 4611686018427387904 rs)), .tup [.own 0 0 m 0 1, .int .i64 (ask.ct.sv ls rs ss)], [⟨.typ (.ints .i64 (ask.om.sv ls rs ss)), 0⟩])
  | _ => none
theorem run : ∀ args v new, R args = some (true, v, new) → ∃ fuel, runFn Try.prog (orc [⟨73, l05Takes.R⟩, ⟨78, l05Place.R⟩]) hd dr (some 1) fuel (bodyOf Try.f62) 149 [4, 5] args [] = some (v, new) := by
  intro args v new h
  unfold R at h
  split at h
  · rename_i ls m rs k ss p
    simp only [Option.some.injEq, Prod.mk.injEq, Bool.and_eq_true, decide_eq_true_eq] at h
    obtain ⟨⟨⟨rfl, rfl, rfl, hp, ht⟩, hv, hs1, hs2⟩, rfl, rfl⟩ := h
    obtain ⟨I0, hn1⟩ := ask.inv0 hv
    have h8 := I0.n8
    obtain ⟨F, hF⟩ : ∃ F : Nat, F = ls.length + tot.sv ls + 5 := ⟨_, rfl⟩
    refine ⟨F, ?_⟩
    rw [start]
    have hl0 := loop0 ls rs ss ls.length rs.length ss.length F (by omega) ls.length 0 F (by omega) (by omega)
    have e1 : (0 : Nat) + 1 = 1 := rfl
    have h1 := round0 ls rs ss ls.length rs.length ss.length (List.replicate ls.length (-1)) ls.length F 0
    rw [List.length_replicate, e1] at h1
    have hsz : (List.replicate ls.length (0 : Int)).sum = 0 := by simp
    have hl1 := loop1 ls rs ss F (by omega) hp hs1 hs2 ht (tot.sv ls + 1) F (List.replicate ls.length (-1)) (List.replicate ls.length 0) 0 I0 (by rw [hsz]; omega) hsz.symm (by omega) (by omega)
    have k1 : (0 : Int) ≤ (ls.length : Int) := Int.natCast_nonneg _
    have k2 : (ls.length : Int) * 8 ≤ 140737488355328 := by omega
    have k3 : (ls.length : Int) ≤ 4611686018427387904 := by omega
    refine Eq.trans hl0 ?_
    rw [h1]
    have eq_ : ((ls.length : Int) == (ls.length : Int)) = true := beq_self_eq_true _
    simp -implicitDefEqProofs only [Int.lt_irrefl, k1, k2, k3, eq_, Nat.reduceBEq, Int.toNat_natCast, and_self, decide_true, decide_false, Bool.and_self, Bool.or_self, Bool.and_true, Bool.true_and, Bool.and_false, Bool.false_and, Bool.or_true, Bool.true_or, Bool.or_false, Bool.false_or, Bool.not_true, Bool.not_false, cond_true, cond_false]
    exact hl1
  · cases h
theorem ok : EntOk Try.prog ⟨62, R⟩ :=
  ent_ok (es := [⟨73, l05Takes.R⟩, ⟨78, l05Place.R⟩]) mixed (by simp only [List.mem_cons, List.not_mem_nil, or_false, forall_eq_or_imp, forall_eq]; exact ⟨l05Takes.ok, l05Place.ok⟩) Try.func62 (by kernel_rfl) (by kernel_rfl) (n := 149) (ts := [4, 5]) (hd := hd) (dr := dr) (cut := (some 1)) (by kernel_rfl) (by kernel_rfl) (by kernel_rfl) run
end l05Ask

namespace iAsk
theorem loop3 (ls rs : List (List Int)) (ss mt ak : List Int) (c b : Int) (f n : Nat) (hl : mt.length = ls.length) (h1000 : ls.length ≤ 1000) (hb0 : 0 ≤ b) (hbk : b < (rs.length : Int)) (hrow : (gr rs b.toNat).length ≤ 4611686018427387904) : ∀ (d i n2 : Nat) (h w : Int), 0 ≤ h → h + (d : Int) ≤ 1000 → i + d = ls.length → d < n2 →
    L3 f n n2 (mkS 96 [(1, .ro (.ints .i64 ss) ss.length 1), (2, .ptr 0 0 0), (4, .nils), (5, .int .i64 0), (6, .ptr 2 0 0), (7, .ptr 4 0 0), (8, .int .i64 (c)), (10, .int .i64 b), (11, .int .i64 (h)), (12, .int .i64 (w)), (61, .own 1 0 ls.length 0 1), (62, .int .i64 ls.length), (63, .int .i64 (i : Nat))] [⟨.cells [.ro (.rows .i64 ls) ls.length 1, .ro (.rows .i64 rs) rs.length 1], 0⟩, ⟨.typ (.ints .i64 (mt)), 0⟩, ⟨.cells [.own 1 0 ls.length 0 1], 0⟩, ⟨.typ (.ints .i64 (ak)), 0⟩, ⟨.cells [.own 3 0 ls.length 0 1], 0⟩]) = L3 f n 1 (mkS 96 [(1, .ro (.ints .i64 ss) ss.length 1), (2, .ptr 0 0 0), (4, .nils), (5, .int .i64 0), (6, .ptr 2 0 0), (7, .ptr 4 0 0), (8, .int .i64 (c)), (10, .int .i64 b), (11, .int .i64 (ask.hc.go b (mt.drop i) h)), (12, .int .i64 (ask.le.go (gr rs b.toNat) b (mt.drop i) i w)), (61, .own 1 0 ls.length 0 1), (62, .int .i64 ls.length), (63, .int .i64 (ls.length : Nat))] [⟨.cells [.ro (.rows .i64 ls) ls.length 1, .ro (.rows .i64 rs) rs.length 1], 0⟩, ⟨.typ (.ints .i64 (mt)), 0⟩, ⟨.cells [.own 1 0 ls.length 0 1], 0⟩, ⟨.typ (.ints .i64 (ak)), 0⟩, ⟨.cells [.own 3 0 ls.length 0 1], 0⟩]) := by
  intro d
  induction d with
  | zero =>
    intro i n2 h w hh0 hh1 hi hn
    obtain ⟨n2, rfl⟩ : ∃ k, n2 = k + 1 := ⟨n2 - 1, by omega⟩
    obtain rfl : i = ls.length := by omega
    have e : mt.drop ls.length = [] := List.drop_of_length_le (by omega)
    have h1 := round3 ls rs ss ls.length rs.length ss.length mt ak ls.length ls.length c b h w ls.length f n n2
    have h2 := round3 ls rs ss ls.length rs.length ss.length mt ak ls.length ls.length c b h w ls.length f n 0
    rw [e]
    simp -implicitDefEqProofs only [ask.hc.go, ask.le.go]
    rw [h1, h2]
    simp -implicitDefEqProofs only [Int.lt_irrefl, and_self, decide_true, decide_false, Bool.and_self, Bool.or_self, Bool.and_true, Bool.true_and, Bool.and_false, Bool.false_and, Bool.or_true, Bool.true_or, Bool.or_false, Bool.false_or, Bool.not_true, Bool.not_false, cond_true, cond_false]
  | succ d ih =>
    intro i n2 h w hh0 hh1 hi hn
    obtain ⟨n2, rfl⟩ : ∃ k, n2 = k + 1 := ⟨n2 - 1, by omega⟩
    have h4 : (0 : Int) ≤ (i : Int) := Int.natCast_nonneg _
    have h5 : (i : Int) < (ls.length : Int) := by omega
    have x1 : i < mt.length := by omega
    have x2 : b.toNat < rs.length := by omega
    have w1 : IntKind.i64.wrap (h + 1) = h + 1 := IntWalk.i64_in _ (by omega)
    have hd : mt.drop i = gz mt i :: mt.drop (i + 1) := by rw [gz_eq x1]; exact List.drop_eq_getElem_cons x1
    have h1 := round3 ls rs ss ls.length rs.length ss.length mt ak ls.length ls.length c b h w i f n n2
    have e : ∀ x y : Int, (x != y) = !decide (x = y) := fun _ _ => rfl
    rw [h1, hd]
    simp -implicitDefEqProofs only [ask.hc.go, ask.le.go, h4, h5, x1, x2, hb0, hbk, hrow, w1, e, Int.toNat_natCast, wrap_nat i (by omega), and_self, true_and, and_self, decide_true, decide_false, Bool.and_self, Bool.or_self, Bool.and_true, Bool.true_and, Bool.and_false, Bool.false_and, Bool.or_true, Bool.true_or, Bool.or_false, Bool.false_or, Bool.not_true, Bool.not_false, cond_true, cond_false]
    by_cases c1 : gz mt i = b
    · by_cases c3 : w < 0
      · simp -implicitDefEqProofs only [c1, c3, and_self, decide_true, decide_false, Bool.and_self, Bool.or_self, Bool.and_true, Bool.true_and, Bool.and_false, Bool.false_and, Bool.or_true, Bool.true_or, Bool.or_false, Bool.false_or, Bool.not_true, Bool.not_false, cond_true, cond_false]; exact ih (i + 1) n2 (h + 1) (i : Int) (by omega) (by omega) (by omega) (by omega)
      · by_cases c2 : pl.sv w (gr rs b.toNat) < pl.sv (i : Int) (gr rs b.toNat)
        · simp -implicitDefEqProofs only [c1, c2, c3, and_self, decide_true, decide_false, Bool.and_self, Bool.or_self, Bool.and_true, Bool.true_and, Bool.and_false, Bool.false_and, Bool.or_true, Bool.true_or, Bool.or_false, Bool.false_or, Bool.not_true, Bool.not_false, cond_true, cond_false]; exact ih (i + 1) n2 (h + 1) (i : Int) (by omega) (by omega) (by omega) (by omega)
        · simp -implicitDefEqProofs only [c1, c2, c3, and_self, decide_true, decide_false, Bool.and_self, Bool.or_self, Bool.and_true, Bool.true_and, Bool.and_false, Bool.false_and, Bool.or_true, Bool.true_or, Bool.or_false, Bool.false_or, Bool.not_true, Bool.not_false, cond_true, cond_false]; exact ih (i + 1) n2 (h + 1) w (by omega) (by omega) (by omega) (by omega)
    · simp -implicitDefEqProofs only [c1, and_self, decide_true, decide_false, Bool.and_self, Bool.or_self, Bool.and_true, Bool.true_and, Bool.and_false, Bool.false_and, Bool.or_true, Bool.true_or, Bool.or_false, Bool.false_or, Bool.not_true, Bool.not_false, cond_true, cond_false]; exact ih (i + 1) n2 h w (by omega) (by omega) (by omega) (by omega)
theorem loop1 (ls rs : List (List Int)) (ss : List Int) (f : Nat) (hf : ls.length < f) (hp : ss.length = ls.length) (hs1 : short.sp 4611686018427387904 ls = true) (hs2 : short.sp 4611686018427387904 rs = true) (ht : tot.sv ls ≤ 1000000000) : ∀ (d n : Nat) (mt ak : List Int) (c : Int), ask.Inv ls rs mt ak → (tot.sv ls : Int) + 1 ≤ ak.sum + (d : Int) → c = ak.sum → 0 ≤ c → d < n →
    ∃ ak', L1 f n (mkS 96 [(1, .ro (.ints .i64 ss) ss.length 1), (2, .ptr 0 0 0), (4, .nils), (5, .int .i64 0), (6, .ptr 2 0 0), (7, .ptr 4 0 0), (8, .int .i64 (c))] [⟨.cells [.ro (.rows .i64 ls) ls.length 1, .ro (.rows .i64 rs) rs.length 1], 0⟩, ⟨.typ (.ints .i64 (mt)), 0⟩, ⟨.cells [.own 1 0 ls.length 0 1], 0⟩, ⟨.typ (.ints .i64 (ak)), 0⟩, ⟨.cells [.own 3 0 ls.length 0 1], 0⟩]) = some (.tup [.own 1 0 ls.length 0 1, .int .i64 (ask.go ls rs ss d mt ak c).2], [⟨.cells [.ro (.rows .i64 ls) ls.length 1, .ro (.rows .i64 rs) rs.length 1], 0⟩, ⟨.typ (.ints .i64 ((ask.go ls rs ss d mt ak c).1)), 0⟩, ⟨.cells [.own 1 0 ls.length 0 1], 0⟩, ⟨.typ (.ints .i64 (ak')), 0⟩, ⟨.cells [.own 3 0 ls.length 0 1], 0⟩]) := by
  intro d
  induction d with
  | zero =>
    intro n mt ak c I hd hc h0 hn
    have := ask.sum_le ak ls I.la (fun j hj => (I.ab j hj).2)
    omega
  | succ d ih =>
    intro n mt ak c I hd hc h0 hn
    obtain ⟨n, rfl⟩ : ∃ k, n = k + 1 := ⟨n - 1, by omega⟩
    have hsum := ask.sum_le ak ls I.la (fun j hj => (I.ab j hj).2)
    have h8 := I.n8
    have hla := I.la
    have hlm := I.lm
    have hlc : (cq.sv ls.length).length = ls.length := cq.sv_length _
    have g1 : (0 : Int) ≤ (ls.length : Int) := Int.natCast_nonneg _
    have g2 : (ls.length : Int) ≤ 1000 := by omega
    have g3 : ls.length ≤ 1000 := by omega
    rw [round1]
    simp -implicitDefEqProofs only [hla, hlm, hlc, g1, g2, g3, Int.toNat_natCast, and_self, true_and, and_self, decide_true, decide_false, Bool.and_self, Bool.or_self, Bool.and_true, Bool.true_and, Bool.and_false, Bool.false_and, Bool.or_true, Bool.true_or, Bool.or_false, Bool.false_or, Bool.not_true, Bool.not_false, cond_true, cond_false]
    rcases ask.fi_cases ls mt ak with hneg | ⟨j, hj, hfe, hmj, haj⟩
    · refine ⟨ak, ?_⟩
      simp -implicitDefEqProofs only [hneg, ask.go, and_self, decide_true, decide_false, Bool.and_self, Bool.or_self, Bool.and_true, Bool.true_and, Bool.and_false, Bool.false_and, Bool.or_true, Bool.true_or, Bool.or_false, Bool.false_or, Bool.not_true, Bool.not_false, cond_true, cond_false]
    · obtain ⟨hb, I', hsm, hset⟩ := ask.step (ss := ss) I hj hmj haj
      rw [l05Ask.go_succ d hfe]
      have eb : ask.bw.sv ls ak (j : Int) = gz (gr ls j) (gz ak j).toNat := by unfold ask.bw.sv; rw [Int.toNat_natCast]
      have enk : ask.nk.sv ak (j : Int) = ak.set j (gz ak j + 1) := by unfold ask.nk.sv; rw [Int.toNat_natCast]
      rw [hfe]
      obtain ⟨b, hbb⟩ : ∃ b, ask.bw.sv ls ak (j : Int) = b := ⟨_, rfl⟩
      have hbe : gz (gr ls j) (gz ak j).toNat = b := eb.symm.trans hbb
      rw [hbb] at hb I' hset ⊢
      rw [enk] at I' hsm ⊢
      have h4 : (0 : Int) ≤ (j : Int) := Int.natCast_nonneg _
      have h5 : (j : Int) < (ls.length : Int) := by omega
      have h6 : ¬ ((j : Int) < 0) := by omega
      have x1 : j < mt.length := by rw [I.lm]; exact hj
      have x2 : j < ak.length := by rw [I.la]; exact hj
      have a0 := (I.ab j hj).1
      have y1 : (gz ak j).toNat < (gr ls j).length := by omega
      have hkl : (rs.length : Int) = (ls.length : Int) := by have := I.nr; omega
      have y2 : b < (rs.length : Int) := by omega
      have y3 : b.toNat < rs.length := by omega
      have y4 : (gr rs b.toNat).length ≤ 4611686018427387904 := by rw [gr_eq y3]; exact short_get hs2 y3
      have lj : (gr ls j).length ≤ tot.sv ls := tot_get hj
      have w1 : IntKind.i64.wrap (gz ak j + 1) = gz ak j + 1 := IntWalk.i64_in _ (by omega)
      have w2 : IntKind.i64.wrap (c + 1) = c + 1 := IntWalk.i64_in _ (by omega)
      simp -implicitDefEqProofs only [Int.toNat_natCast, hbe, h4, h5, h6, hj, hla, hlm, a0, haj, y1, hb.1, y2, y3, y4, w1, w2, List.take_length, Nat.le_refl, true_and, and_self, and_self, decide_true, decide_false, Bool.and_self, Bool.or_self, Bool.and_true, Bool.true_and, Bool.and_false, Bool.false_and, Bool.or_true, Bool.true_or, Bool.or_false, Bool.false_or, Bool.not_true, Bool.not_false, cond_true, cond_false]
      rcases Bool.eq_false_or_eq_true ((gr rs b.toNat).any (has.sp (j : Int))) with hta | hta
      · have h3 := loop3 ls rs ss (mt.set j b) (ak.set j (gz ak j + 1)) (c + 1) b f n (by rw [List.length_set]; exact I.lm) (by omega) hb.1 y2 y4 ls.length 0 f 0 (-1) (by omega) (by omega) (by omega) hf
        have ehc : ask.hc.go b ((mt.set j b).drop 0) 0 = ask.hc.sv b (mt.set j b) := by rw [List.drop_zero]; rfl
        have ewo : ask.le.go (gr rs b.toNat) b ((mt.set j b).drop 0) 0 (-1) = ask.wo.sv (gr rs b.toNat) b (mt.set j b) (j : Int) := by
          rw [List.drop_zero]
          exact ask.le_eq (hset hta).1 (hset hta).2
        rw [ehc, ewo] at h3
        have hm2 : ask.m2.sv rs ss mt b (j : Int) = bif decide (gz ss b.toNat < ask.hc.sv b (mt.set j b)) then (mt.set j b).set (ask.wo.sv (gr rs b.toNat) b (mt.set j b) (j : Int)).toNat (-1) else mt.set j b := by
          unfold ask.m2.sv
          rw [Int.toNat_natCast, hta, cond_true]
        have hwi := ask.wo_in (row := gr rs b.toNat) (b := b) (mt := mt.set j b) (j := j) (by rw [List.length_set]; exact x1)
        have lms : (mt.set j b).length = ls.length := by rw [List.length_set]; exact I.lm
        rw [lms] at hwi
        have z1 : (ask.wo.sv (gr rs b.toNat) b (mt.set j b) (j : Int)).toNat < ls.length := by omega
        have z2 : b.toNat < ls.length := by omega
        obtain ⟨ak', ihh⟩ := ih n _ _ (c + 1) I' (by rw [hsm]; omega) (by rw [hsm, hc]) (by omega) (by omega)
        refine ⟨ak', ?_⟩
        simp -implicitDefEqProofs only [hta, and_self, decide_true, decide_false, Bool.and_self, Bool.or_self, Bool.and_true, Bool.true_and, Bool.and_false, Bool.false_and, Bool.or_true, Bool.true_or, Bool.or_false, Bool.false_or, Bool.not_true, Bool.not_false, cond_true, cond_false]
        refine Eq.trans h3 ?_
        rw [round3]
        rw [hm2] at ihh ⊢
        by_cases cc : gz ss b.toNat < ask.hc.sv b (mt.set j b)
        · simp -implicitDefEqProofs only [cc, hp, and_self, decide_true, decide_false, Bool.and_self, Bool.or_self, Bool.and_true, Bool.true_and, Bool.and_false, Bool.false_and, Bool.or_true, Bool.true_or, Bool.or_false, Bool.false_or, Bool.not_true, Bool.not_false, cond_true, cond_false] at ihh
          simp -implicitDefEqProofs only [Int.lt_irrefl, cc, hb.1, hb.2, hp, z1, z2, hwi.1, hwi.2, lms, and_self, decide_true, decide_false, Bool.and_self, Bool.or_self, Bool.and_true, Bool.true_and, Bool.and_false, Bool.false_and, Bool.or_true, Bool.true_or, Bool.or_false, Bool.false_or, Bool.not_true, Bool.not_false, cond_true, cond_false]
          exact ihh
        · simp -implicitDefEqProofs only [cc, hp, and_self, decide_true, decide_false, Bool.and_self, Bool.or_self, Bool.and_true, Bool.true_and, Bool.and_false, Bool.false_and, Bool.or_true, Bool.true_or, Bool.or_false, Bool.false_or, Bool.not_true, Bool.not_false, cond_true, cond_false] at ihh
          simp -implicitDefEqProofs only [Int.lt_irrefl, cc, hb.1, hb.2, hp, z1, z2, hwi.1, hwi.2, lms, and_self, decide_true, decide_false, Bool.and_self, Bool.or_self, Bool.and_true, Bool.true_and, Bool.and_false, Bool.false_and, Bool.or_true, Bool.true_or, Bool.or_false, Bool.false_or, Bool.not_true, Bool.not_false, cond_true, cond_false]
          exact ihh
      · have hm2 : ask.m2.sv rs ss mt b (j : Int) = mt := by
          unfold ask.m2.sv
          rw [Int.toNat_natCast, hta, cond_false]
        obtain ⟨ak', ihh⟩ := ih n _ _ (c + 1) I' (by rw [hsm]; omega) (by rw [hsm, hc]) (by omega) (by omega)
        refine ⟨ak', ?_⟩
        simp -implicitDefEqProofs only [hta, and_self, decide_true, decide_false, Bool.and_self, Bool.or_self, Bool.and_true, Bool.true_and, Bool.and_false, Bool.false_and, Bool.or_true, Bool.true_or, Bool.or_false, Bool.false_or, Bool.not_true, Bool.not_false, cond_true, cond_false]
        rw [hm2] at ihh ⊢
        exact ihh
def R : List AVal → Option (Bool × AVal × List Blk)
  | [.agg [.ro (.rows .i64 ls) m 1, .ro (.rows .i64 rs) k 1], .ro (.ints .i64 ss) p 1] => some (decide (m = ls.length ∧ k = rs.length ∧ p = ss.length ∧ p = m ∧ tot.sv ls ≤ 1000000000) && (vw.sp ls rs && (short.sp 4611686018427387904 ls && short.sp 4611686018427387904 rs)), .tup [.own 0 0 m 0 1, .int .i64 (ask.ct.sv ls rs ss)], [⟨.typ (.ints .i64 (ask.om.sv ls rs ss)), 0⟩])
  | _ => none
theorem run : ∀ args v new, R args = some (true, v, new) → ∃ fuel, regc [1] (runFn Try.prog (orc [⟨81, iCount.R⟩, ⟨80, iNone.R⟩, ⟨83, counting2.R⟩, ⟨82, askIdx.R⟩, ⟨58, slContains.R⟩, ⟨85, iDearer.R⟩]) hd Dr.std none fuel (bodyOf Try.f65) 96 [4, 5] args []) = some (v, new) := by
  intro args v new h
  unfold R at h
  split at h
  · rename_i ls m rs k ss p
    simp only [Option.some.injEq, Prod.mk.injEq, Bool.and_eq_true, decide_eq_true_eq] at h
    obtain ⟨⟨⟨rfl, rfl, rfl, hp, ht⟩, hv, hs1, hs2⟩, rfl, rfl⟩ := h
    obtain ⟨I0, hn1⟩ := ask.inv0 hv
    have h8 := I0.n8
    obtain ⟨F, hF⟩ : ∃ F : Nat, F = ls.length + tot.sv ls + 5 := ⟨_, rfl⟩
    refine ⟨F, ?_⟩
    rw [start]
    have hsz : (List.replicate ls.length (0 : Int)).sum = 0 := by simp
    obtain ⟨ak', hl1⟩ := loop1 ls rs ss F (by omega) hp hs1 hs2 ht (tot.sv ls + 1) F (List.replicate ls.length (-1)) (List.replicate ls.length 0) 0 I0 (by rw [hsz]; omega) hsz.symm (by omega) (by omega)
    have k1 : (0 : Int) ≤ (ls.length : Int) := Int.natCast_nonneg _
    have k2 : (ls.length : Int) * 8 ≤ 140737488355328 := by omega
    have k3 : (ls.length : Int) ≤ 4611686018427387904 := by omega
    have k4 : (1 : Int) ≤ (ls.length : Int) := by omega
    have k5 : (ls.length : Int) ≤ 8 := by omega
    have k6 : (0 : Nat) < 1 := by omega
    have eq_ : ((ls.length : Int) == (ls.length : Int)) = true := beq_self_eq_true _
    simp -implicitDefEqProofs only [k1, k2, k3, k4, k5, k6, eq_, Nat.reduceBEq, Nat.reduceAdd, Int.toNat_natCast, and_self, true_and, and_self, decide_true, decide_false, Bool.and_self, Bool.or_self, Bool.and_true, Bool.true_and, Bool.and_false, Bool.false_and, Bool.or_true, Bool.true_or, Bool.or_false, Bool.false_or, Bool.not_true, Bool.not_false, cond_true, cond_false]
    exact (congrArg (regc [1]) hl1).trans rfl
  · cases h
theorem ok : EntOk Try.prog ⟨65, R⟩ :=
  ent_okG (ks := [1]) (es := [⟨81, iCount.R⟩, ⟨80, iNone.R⟩, ⟨83, counting2.R⟩, ⟨82, askIdx.R⟩, ⟨58, slContains.R⟩, ⟨85, iDearer.R⟩]) mixed (by simp only [List.mem_cons, List.not_mem_nil, or_false, forall_eq_or_imp, forall_eq]; exact ⟨iCount.ok, iNone.ok, counting2.ok, askIdx.ok, slContains.ok, iDearer.ok⟩) Try.func65 (by kernel_rfl) (by kernel_rfl) (n := 96) (ts := [4, 5]) (hd := hd) (dr := Dr.std) (cut := none) (by kernel_rfl) (by kernel_rfl) (by kernel_rfl) run
end iAsk

/-- Wishes are valid, and a list has seats. -/
def st.sp (ls rs : List (List Int)) (ss : List Int) : Bool := vw.sp ls rs && (decide ((ss.length : Int) = (ls.length : Int)) && ss.all (iw.sp 0 8))
theorem vw_len {ls rs : List (List Int)} (h : vw.sp ls rs = true) : rs.length = ls.length ∧ 1 ≤ ls.length ∧ ls.length ≤ 8 := by
  unfold vw.sp at h
  simp only [Bool.and_eq_true, decide_eq_true_eq] at h
  omega
namespace sAskMatch_t
def R : List AVal → Option (Bool × AVal × List Blk)
  | [.agg [.ro (.rows .i64 ls) m 1, .ro (.rows .i64 rs) k 1]] => some (decide (m = ls.length ∧ m ≤ 4611686018427387904 ∧ k = rs.length ∧ k ≤ 4611686018427387904 ∧ tot.sv ls ≤ 1000000000) && ((short.sp 4611686018427387904 ls && short.sp 4611686018427387904 rs) && vw.sp ls rs), .tup [.own 0 0 m 0 1, .int .i64 (ask.ct.sv ls rs (List.replicate m 1)), .bool true], [⟨.typ (.ints .i64 (ask.om.sv ls rs (List.replicate m 1))), 0⟩])
  | _ => none
theorem go (ls rs : List (List Int)) (m k : Nat) :
  regc [2] (runFn Try.prog (orc [⟨61, l05Is.R⟩, ⟨63, l05Ones.R⟩, ⟨62, l05Ask.R⟩]) hd0 Dr.std none 0 (bodyOf Try.f43) 19 [2, 3, 4] [.agg [.ro (.rows .i64 ls) m 1, .ro (.rows .i64 rs) k 1]] [])
  = (match bif decide (m = ls.length ∧ m ≤ (4611686018427387904 : Nat) ∧ k = rs.length ∧ k ≤ (4611686018427387904 : Nat)) && (short.sp (4611686018427387904 : Nat) ls && short.sp (4611686018427387904 : Nat) rs) && (false && true || true && true) then bif !vw.sp ls rs then some (AVal.tup [AVal.nils, AVal.int IntKind.i64 (0 : Int), AVal.bool false], [{ c := BC.cells [AVal.ro (Cont.rows IntKind.i64 ls) m (1 : Nat), AVal.ro (Cont.rows IntKind.i64 rs) k (1 : Nat)], ver := (0 : Nat) }]) else bif true && true then bif decide ((0 : Int) ≤ (↑m : Int) ∧ (↑m : Int) ≤ (1000 : Int)) && (true && true || true && (true && true)) then bif decide (m = ls.length ∧ k = rs.length ∧ (↑m : Int).toNat = (List.replicate (↑m : Int).toNat (1 : Int)).length ∧ (↑m : Int).toNat = m ∧ tot.sv ls ≤ (1000000000 : Nat)) && (vw.sp ls rs && (short.sp (4611686018427387904 : Nat) ls && short.sp (4611686018427387904 : Nat) rs)) && (false && (false && true) || true && (true && true) && (true && true)) then some (AVal.tup [AVal.own ((1 : Nat) + (1 : Nat) + (0 : Nat)) (0 : Nat) m (0 : Nat) (1 : Nat), AVal.int IntKind.i64 (ask.ct.sv ls rs (List.replicate (↑m : Int).toNat (1 : Int))), AVal.bool true], [{ c := BC.cells [AVal.ro (Cont.rows IntKind.i64 ls) m (1 : Nat), AVal.ro (Cont.rows IntKind.i64 rs) k (1 : Nat)], ver := (0 : Nat) }, { c := BC.typ (Cont.ints IntKind.i64 (List.replicate (↑m : Int).toNat (1 : Int))), ver := (0 : Nat) }, { c := BC.typ (Cont.ints IntKind.i64 (ask.om.sv ls rs (List.replicate (↑m : Int).toNat (1 : Int)))), ver := (0 : Nat) }]) else none else none else none else none with
| some (v, h) =>
  bif true && (ltN (2 : Nat) (hlen h) && true) then
    some
      (AVal.re [(2 : Nat)] h v,
        match nth h (2 : Nat) with
        | some b => { c := BC.re [(2 : Nat)] h b.c, ver := b.ver } :: reB [(2 : Nat)] h []
        | none => { c := BC.cells [], ver := (0 : Nat) } :: reB [(2 : Nat)] h [])
  else none
| none => none) := by kernel_rfl
theorem run : ∀ args v new, R args = some (true, v, new) → ∃ fuel, regc [2] (runFn Try.prog (orc [⟨61, l05Is.R⟩, ⟨63, l05Ones.R⟩, ⟨62, l05Ask.R⟩]) hd0 Dr.std none fuel (bodyOf Try.f43) 19 [2, 3, 4] args []) = some (v, new) := by
  intro args v new h
  unfold R at h
  split at h
  · rename_i ls m rs k
    simp only [Option.some.injEq, Prod.mk.injEq, Bool.and_eq_true, decide_eq_true_eq] at h
    obtain ⟨⟨⟨rfl, h1, rfl, h2, ht⟩, ⟨h3, h4⟩, hv⟩, rfl, rfl⟩ := h
    obtain ⟨l1, l2, l3⟩ := vw_len hv
    have a1 : (0 : Int) ≤ (ls.length : Int) := by omega
    have a2 : (ls.length : Int) ≤ 1000 := by omega
    have a3 : (List.replicate ls.length (1 : Int)).length = ls.length := List.length_replicate
    refine ⟨0, ?_⟩
    rw [go]
    simp -implicitDefEqProofs only [h1, h2, h3, h4, hv, ht, l2, l3, a1, a2, a3, Int.toNat_natCast, and_self, true_and, and_true, eq_self, and_self, decide_true, decide_false, Bool.and_self, Bool.or_self, Bool.and_true, Bool.true_and, Bool.and_false, Bool.false_and, Bool.or_true, Bool.true_or, Bool.or_false, Bool.false_or, Bool.not_true, Bool.not_false, cond_true, cond_false]
    try rfl
  · cases h
theorem ok : EntOk Try.prog ⟨43, R⟩ :=
  ent_okAG (ks := [2]) mixed (A := (orc [⟨61, l05Is.R⟩, ⟨63, l05Ones.R⟩, ⟨62, l05Ask.R⟩])) (orc_ok (by simp only [List.mem_cons, List.not_mem_nil, or_false, forall_eq_or_imp, forall_eq]; exact ⟨l05Is.ok, l05Ones.ok, l05Ask.ok⟩)) Try.func43 (by kernel_rfl) (by kernel_rfl) (n := 19) (ts := [2, 3, 4]) (hd := hd0) (dr := Dr.std) (cut := none) (by kernel_rfl) (by kernel_rfl) (by kernel_rfl) run
end sAskMatch_t

namespace sAskMatch_f
def R : List AVal → Option (Bool × AVal × List Blk)
  | [.agg [.ro (.rows .i64 ls) m 1, .ro (.rows .i64 rs) k 1]] => some (decide (m = ls.length ∧ m ≤ 4611686018427387904 ∧ k = rs.length ∧ k ≤ 4611686018427387904 ∧ tot.sv ls ≤ 1000000000) && ((short.sp 4611686018427387904 ls && short.sp 4611686018427387904 rs) && !vw.sp ls rs), .tup [.nils, .int .i64 0, .bool false], [])
  | _ => none
theorem go (ls rs : List (List Int)) (m k : Nat) :
  runFn Try.prog (orc [⟨61, l05Is.R⟩]) hd0 Dr.std (some 0) 0 (bodyOf Try.f43) 19 [2, 3, 4] [.agg [.ro (.rows .i64 ls) m 1, .ro (.rows .i64 rs) k 1]] []
  = (bif decide (m = ls.length ∧ m ≤ (4611686018427387904 : Nat) ∧ k = rs.length ∧ k ≤ (4611686018427387904 : Nat)) && (short.sp (4611686018427387904 : Nat) ls && short.sp (4611686018427387904 : Nat) rs) && (false && true || true && true) then bif !vw.sp ls rs then some (AVal.tup [AVal.nils, AVal.int IntKind.i64 (0 : Int), AVal.bool false], []) else bif true && true then none else none else none) := by kernel_rfl
theorem run : ∀ args v new, R args = some (true, v, new) → ∃ fuel, runFn Try.prog (orc [⟨61, l05Is.R⟩]) hd0 Dr.std (some 0) fuel (bodyOf Try.f43) 19 [2, 3, 4] args [] = some (v, new) := by
  intro args v new h
  unfold R at h
  split at h
  · rename_i ls m rs k
    simp only [Option.some.injEq, Prod.mk.injEq, Bool.and_eq_true, decide_eq_true_eq, Bool.not_eq_true'] at h
    obtain ⟨⟨⟨rfl, h1, rfl, h2, ht⟩, ⟨h3, h4⟩, hv⟩, rfl, rfl⟩ := h
    refine ⟨0, ?_⟩
    rw [go]
    simp -implicitDefEqProofs only [h1, h2, h3, h4, hv, ht, and_self, true_and, and_true, eq_self, and_self, decide_true, decide_false, Bool.and_self, Bool.or_self, Bool.and_true, Bool.true_and, Bool.and_false, Bool.false_and, Bool.or_true, Bool.true_or, Bool.or_false, Bool.false_or, Bool.not_true, Bool.not_false, cond_true, cond_false]
    try rfl
  · cases h
theorem ok : EntOk Try.prog ⟨43, R⟩ :=
  ent_okA mixed (A := (orc [⟨61, l05Is.R⟩])) (orc_ok (by simp only [List.mem_cons, List.not_mem_nil, or_false, forall_eq_or_imp, forall_eq]; exact l05Is.ok)) Try.func43 (by kernel_rfl) (by kernel_rfl) (n := 19) (ts := [2, 3, 4]) (hd := hd0) (dr := Dr.std) (cut := (some 0)) (by kernel_rfl) (by kernel_rfl) (by kernel_rfl) run
end sAskMatch_f

namespace sAskMatch
def Rt := sAskMatch_t.R
def Rf := sAskMatch_f.R
theorem okt : EntOk Try.prog ⟨43, Rt⟩ := sAskMatch_t.ok
theorem okf : EntOk Try.prog ⟨43, Rf⟩ := sAskMatch_f.ok
end sAskMatch

namespace iAskMatch_t
def R : List AVal → Option (Bool × AVal × List Blk)
  | [.agg [.ro (.rows .i64 ls) m 1, .ro (.rows .i64 rs) k 1]] => some (decide (m = ls.length ∧ m ≤ 4611686018427387904 ∧ k = rs.length ∧ k ≤ 4611686018427387904 ∧ tot.sv ls ≤ 1000000000) && ((short.sp 4611686018427387904 ls && short.sp 4611686018427387904 rs) && vw.sp ls rs), .tup [.own 0 0 m 0 1, .int .i64 (ask.ct.sv ls rs (List.replicate m 1)), .bool true], [⟨.typ (.ints .i64 (ask.om.sv ls rs (List.replicate m 1))), 0⟩])
  | _ => none
theorem go (ls rs : List (List Int)) (m k : Nat) :
  regc [2] (runFn Try.prog (orc [⟨64, iValidWishes.R⟩, ⟨66, iOnes.R⟩, ⟨65, iAsk.R⟩]) hd0 Dr.std none 0 (bodyOf Try.f45) 19 [2, 3, 4] [.agg [.ro (.rows .i64 ls) m 1, .ro (.rows .i64 rs) k 1]] [])
  = (match bif true && true && (true && true && true) then bif decide (m = ls.length ∧ m ≤ (4611686018427387904 : Nat) ∧ k = rs.length ∧ k ≤ (4611686018427387904 : Nat)) && (short.sp (4611686018427387904 : Nat) ls && short.sp (4611686018427387904 : Nat) rs) && (true && (true && true) && true || true && true) then bif !vw.sp ls rs then some (AVal.tup [AVal.nils, AVal.int IntKind.i64 (0 : Int), AVal.bool false], [{ c := BC.cells [AVal.ro (Cont.rows IntKind.i64 ls) m (1 : Nat), AVal.ro (Cont.rows IntKind.i64 rs) k (1 : Nat)], ver := (0 : Nat) }]) else bif true && true && (true && true && true) then bif true && true && (true && true && true) then bif decide ((1 : Nat) ≤ m ∧ m ≤ (8 : Nat)) && (true && (true && true) && true || true && (true && true)) then bif decide (m = ls.length ∧ k = rs.length ∧ m = (List.replicate m (1 : Int)).length ∧ m = m ∧ tot.sv ls ≤ (1000000000 : Nat)) && (vw.sp ls rs && (short.sp (4611686018427387904 : Nat) ls && short.sp (4611686018427387904 : Nat) rs)) && (true && (true && true) && (false && true) || true && (true && true) && (true && true)) then some (AVal.tup [AVal.own ((1 : Nat) + (1 : Nat) + (0 : Nat)) (0 : Nat) m (0 : Nat) (1 : Nat), AVal.int IntKind.i64 (ask.ct.sv ls rs (List.replicate m (1 : Int))), AVal.bool true], [{ c := BC.cells [AVal.ro (Cont.rows IntKind.i64 ls) m (1 : Nat), AVal.ro (Cont.rows IntKind.i64 rs) k (1 : Nat)], ver := (0 : Nat) }, { c := BC.typ (Cont.ints IntKind.i64 (List.replicate m (1 : Int))), ver := (0 : Nat) }, { c := BC.typ (Cont.ints IntKind.i64 (ask.om.sv ls rs (List.replicate m (1 : Int)))), ver := (0 : Nat) }]) else none else none else none else none else none else none with
| some (v, h) =>
  bif true && (ltN (2 : Nat) (hlen h) && true) then
    some
      (AVal.re [(2 : Nat)] h v,
        match nth h (2 : Nat) with
        | some b => { c := BC.re [(2 : Nat)] h b.c, ver := b.ver } :: reB [(2 : Nat)] h []
        | none => { c := BC.cells [], ver := (0 : Nat) } :: reB [(2 : Nat)] h [])
  else none
| none => none) := by kernel_rfl
theorem run : ∀ args v new, R args = some (true, v, new) → ∃ fuel, regc [2] (runFn Try.prog (orc [⟨64, iValidWishes.R⟩, ⟨66, iOnes.R⟩, ⟨65, iAsk.R⟩]) hd0 Dr.std none fuel (bodyOf Try.f45) 19 [2, 3, 4] args []) = some (v, new) := by
  intro args v new h
  unfold R at h
  split at h
  · rename_i ls m rs k
    simp only [Option.some.injEq, Prod.mk.injEq, Bool.and_eq_true, decide_eq_true_eq] at h
    obtain ⟨⟨⟨rfl, h1, rfl, h2, ht⟩, ⟨h3, h4⟩, hv⟩, rfl, rfl⟩ := h
    obtain ⟨l1, l2, l3⟩ := vw_len hv
    have a1 : (0 : Int) ≤ (ls.length : Int) := by omega
    have a2 : (ls.length : Int) ≤ 1000 := by omega
    have a3 : (List.replicate ls.length (1 : Int)).length = ls.length := List.length_replicate
    refine ⟨0, ?_⟩
    rw [go]
    simp -implicitDefEqProofs only [h1, h2, h3, h4, hv, ht, l2, l3, a1, a2, a3, Int.toNat_natCast, and_self, true_and, and_true, eq_self, and_self, decide_true, decide_false, Bool.and_self, Bool.or_self, Bool.and_true, Bool.true_and, Bool.and_false, Bool.false_and, Bool.or_true, Bool.true_or, Bool.or_false, Bool.false_or, Bool.not_true, Bool.not_false, cond_true, cond_false]
    try rfl
  · cases h
theorem ok : EntOk Try.prog ⟨45, R⟩ :=
  ent_okAG (ks := [2]) mixed (A := (orc [⟨64, iValidWishes.R⟩, ⟨66, iOnes.R⟩, ⟨65, iAsk.R⟩])) (orc_ok (by simp only [List.mem_cons, List.not_mem_nil, or_false, forall_eq_or_imp, forall_eq]; exact ⟨iValidWishes.ok, iOnes.ok, iAsk.ok⟩)) Try.func45 (by kernel_rfl) (by kernel_rfl) (n := 19) (ts := [2, 3, 4]) (hd := hd0) (dr := Dr.std) (cut := none) (by kernel_rfl) (by kernel_rfl) (by kernel_rfl) run
end iAskMatch_t

namespace iAskMatch_f
def R : List AVal → Option (Bool × AVal × List Blk)
  | [.agg [.ro (.rows .i64 ls) m 1, .ro (.rows .i64 rs) k 1]] => some (decide (m = ls.length ∧ m ≤ 4611686018427387904 ∧ k = rs.length ∧ k ≤ 4611686018427387904 ∧ tot.sv ls ≤ 1000000000) && ((short.sp 4611686018427387904 ls && short.sp 4611686018427387904 rs) && !vw.sp ls rs), .tup [.nils, .int .i64 0, .bool false], [])
  | _ => none
theorem go (ls rs : List (List Int)) (m k : Nat) :
  runFn Try.prog (orc [⟨64, iValidWishes.R⟩]) hd0 Dr.std (some 0) 0 (bodyOf Try.f45) 19 [2, 3, 4] [.agg [.ro (.rows .i64 ls) m 1, .ro (.rows .i64 rs) k 1]] []
  = (bif true && true && (true && true && true) then bif decide (m = ls.length ∧ m ≤ (4611686018427387904 : Nat) ∧ k = rs.length ∧ k ≤ (4611686018427387904 : Nat)) && (short.sp (4611686018427387904 : Nat) ls && short.sp (4611686018427387904 : Nat) rs) && (true && (true && true) && true || true && true) then bif !vw.sp ls rs then some (AVal.tup [AVal.nils, AVal.int IntKind.i64 (0 : Int), AVal.bool false], []) else bif true && true && (true && true && true) then bif true && true && (true && true && true) then none else none else none else none else none) := by kernel_rfl
theorem run : ∀ args v new, R args = some (true, v, new) → ∃ fuel, runFn Try.prog (orc [⟨64, iValidWishes.R⟩]) hd0 Dr.std (some 0) fuel (bodyOf Try.f45) 19 [2, 3, 4] args [] = some (v, new) := by
  intro args v new h
  unfold R at h
  split at h
  · rename_i ls m rs k
    simp only [Option.some.injEq, Prod.mk.injEq, Bool.and_eq_true, decide_eq_true_eq, Bool.not_eq_true'] at h
    obtain ⟨⟨⟨rfl, h1, rfl, h2, ht⟩, ⟨h3, h4⟩, hv⟩, rfl, rfl⟩ := h
    refine ⟨0, ?_⟩
    rw [go]
    simp -implicitDefEqProofs only [h1, h2, h3, h4, hv, ht, and_self, true_and, and_true, eq_self, and_self, decide_true, decide_false, Bool.and_self, Bool.or_self, Bool.and_true, Bool.true_and, Bool.and_false, Bool.false_and, Bool.or_true, Bool.true_or, Bool.or_false, Bool.false_or, Bool.not_true, Bool.not_false, cond_true, cond_false]
    try rfl
  · cases h
theorem ok : EntOk Try.prog ⟨45, R⟩ :=
  ent_okA mixed (A := (orc [⟨64, iValidWishes.R⟩])) (orc_ok (by simp only [List.mem_cons, List.not_mem_nil, or_false, forall_eq_or_imp, forall_eq]; exact iValidWishes.ok)) Try.func45 (by kernel_rfl) (by kernel_rfl) (n := 19) (ts := [2, 3, 4]) (hd := hd0) (dr := Dr.std) (cut := (some 0)) (by kernel_rfl) (by kernel_rfl) (by kernel_rfl) run
end iAskMatch_f

namespace iAskMatch
def Rt := iAskMatch_t.R
def Rf := iAskMatch_f.R
theorem okt : EntOk Try.prog ⟨45, Rt⟩ := iAskMatch_t.ok
theorem okf : EntOk Try.prog ⟨45, Rf⟩ := iAskMatch_f.ok
end iAskMatch









end Go.Proofs.Ythecninmmojkgaa.Ab
