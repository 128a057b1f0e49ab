/-
  Functions: wishes: the lists of the reference, repeated numbers.
-/
import Derived.Test.YthecninmmojkgaaFnUC
import Derived.Test.YthecninmmojkgaaFnZA
namespace Go.Proofs.Ythecninmmojkgaa.Ab
open Go
set_option linter.unusedVariables false
set_option linter.unusedSimpArgs false
set_option maxRecDepth 100000

set_option maxRecDepth 100000
theorem len_bound (xs : List (List Int)) : ∃ B, ∀ r ∈ xs, r.length < B := by
  induction xs with
  | nil => exact ⟨0, fun r hr => by cases hr⟩
  | cons x t ih =>
    obtain ⟨B, hB⟩ := ih
    refine ⟨B + x.length + 1, fun r hr => ?_⟩
    rcases List.mem_cons.1 hr with rfl | hr
    · omega
    · have := hB r hr; omega
namespace l05Place
def R : List AVal → Option (Bool × AVal × List Blk)
  | [.ro (.ints .i64 xs) m 1, .int .i64 v] => some (decide (m = xs.length ∧ m ≤ 4611686018427387904), .int .i64 (pl.sv v xs), [])
  | _ => none
def hd : Nat → Head := fun _ => ⟨[0, 1, 4, 7, 8], none⟩
noncomputable def L (f n : Nat) (s : State) := loopAt Try.prog (orc []) hd Dr.std 0 f (bodyOf Try.f78) 0 [true, false, true] (retK Try.prog [4] 0 none) n s
theorem start (xs : List Int) (m : Nat) (v : Int) (f : Nat) :
  runFn Try.prog (orc []) hd Dr.std none f (bodyOf Try.f78) 21 [4] [.ro (.ints .i64 xs) m 1, .int .i64 v] []
  = (L f f (mkS (21 : Nat) [((0 : Nat), AVal.ro (Cont.ints IntKind.i64 xs) m (1 : Nat)), ((1 : Nat), AVal.int IntKind.i64 v), ((4 : Nat), AVal.int IntKind.i64 (0 : Int)), ((7 : Nat), AVal.int IntKind.i64 (↑m : Int)), ((8 : Nat), AVal.int IntKind.i64 (0 : Int))] [])) := by kernel_rfl
theorem round (xs : List Int) (m : Nat) (v : Int) (i : Nat) (f n : Nat) :
  L f (n + 1) (mkS 21 [(0, .ro (.ints .i64 xs) m 1), (1, .int .i64 v), (4, .int .i64 0), (7, .int .i64 m), (8, .int .i64 i)] [])
  = (bif decide ((↑i : Int) < (↑m : Int)) then bif true && (decide ((0 : Int) ≤ (↑i : Int)) && decide ((↑i : Int) < (↑m : Int))) then bif decide ((↑i : Int).toNat < xs.length) then bif gz xs (↑i : Int).toNat == v then some (AVal.int IntKind.i64 (↑i : Int), []) else L f n (mkS (21 : Nat) [((0 : Nat), AVal.ro (Cont.ints IntKind.i64 xs) m (1 : Nat)), ((1 : Nat), AVal.int IntKind.i64 v), ((4 : Nat), AVal.int IntKind.i64 (0 : Int)), ((7 : Nat), AVal.int IntKind.i64 (↑m : Int)), ((8 : Nat), AVal.int IntKind.i64 (IntKind.i64.wrap ((↑i : Int) + (1 : Int))))] []) else none else none else some (AVal.int IntKind.i64 (↑m : Int), [])) := by kernel_rfl
theorem loop (xs : List Int) (m : Nat) (v : Int) (f : Nat) (hm : m = xs.length) (hb : m ≤ 4611686018427387904) : ∀ (d i n : Nat) , i + d = m → d < n →
    L f n (mkS 21 [(0, .ro (.ints .i64 xs) m 1), (1, .int .i64 v), (4, .int .i64 0), (7, .int .i64 m), (8, .int .i64 i)] []) = some (.int .i64 ((pl.go v (xs.drop i) i : Nat) : Int), []) := by
  intro d
  induction d with
  | zero =>
    intro i n  hi hn 
    obtain ⟨n, rfl⟩ : ∃ k, n = k + 1 := ⟨n - 1, by omega⟩
    obtain rfl : i = m := by omega
    rw [round]
    have e : xs.drop i = [] := List.drop_of_length_le (by omega)
    rw [e]
    simp [pl.go]
  | succ d ih =>
    intro i n  hi hn 
    obtain ⟨n, rfl⟩ : ∃ k, n = k + 1 := ⟨n - 1, by omega⟩
    have h1 : i < m := by omega
    have h4 : (0 : Int) ≤ (i : Int) := Int.natCast_nonneg _
    have h5 : (i : Int) < (m : Int) := by omega
    have h2 : i < xs.length := by omega
    rw [round]
    rw [List.drop_eq_getElem_cons h2]
    have hr := ih (i + 1) n (by omega) (by omega)
    have hh : (xs[i] == v) = has.sp v xs[i] := rfl
    simp only [pl.go, h4, h5, h2, gz_eq h2, hh, decide_true, Bool.and_self, Bool.or_self, Bool.and_true, Bool.true_and, cond_true, Int.toNat_natCast, wrap_nat i (by omega)]
    rcases Bool.eq_false_or_eq_true (has.sp v xs[i]) with c | c
    · simp only [c, cond_true]
    · simp only [c, cond_false]; exact hr
theorem run : ∀ args v new, R args = some (true, v, new) → ∃ fuel, runFn Try.prog (orc []) hd Dr.std none fuel (bodyOf Try.f78) 21 [4] args [] = some (v, new) := by
  intro args v new h
  unfold R at h
  split at h
  · rename_i xs m v
    simp only [Option.some.injEq, Prod.mk.injEq, decide_eq_true_eq] at h
    obtain ⟨⟨h1, h2⟩, rfl, rfl⟩ := h
    refine ⟨m + 1, ?_⟩
    rw [start]
    have hl := loop xs m v (m + 1) h1 h2 m 0 (m + 1) (by omega) (by omega)
    unfold pl.sv
    simpa using hl
  · cases h
theorem ok : EntOk Try.prog ⟨78, R⟩ :=
  ent_okA mixed (A := (orc [])) (orc_ok (by simp)) Try.func78 (by kernel_rfl) (by kernel_rfl) (n := 21) (ts := [4]) (hd := hd) (dr := Dr.std) (cut := none) (by kernel_rfl) (by kernel_rfl) (by kernel_rfl) run
end l05Place

namespace l05Takes
def R : List AVal → Option (Bool × AVal × List Blk)
  | [.ro (.ints .i64 xs) m 1, .int .i64 v] => some (decide (m = xs.length ∧ m ≤ 4611686018427387904), .bool (xs.any (has.sp v)), [])
  | _ => none
theorem go (xs : List Int) (m : Nat) (v : Int) :
  runFn Try.prog (orc [⟨78, l05Place.R⟩]) hd0 Dr.std none 0 (bodyOf Try.f73) 11 [4] [.ro (.ints .i64 xs) m 1, .int .i64 v] []
  = (bif decide (m = xs.length ∧ m ≤ (4611686018427387904 : Nat)) && (true && (true && true) || true && true) then some (AVal.bool (decide (pl.sv v xs < (↑m : Int))), []) else none) := by kernel_rfl
theorem run : ∀ args v new, R args = some (true, v, new) → ∃ fuel, runFn Try.prog (orc [⟨78, l05Place.R⟩]) hd0 Dr.std none fuel (bodyOf Try.f73) 11 [4] args [] = some (v, new) := by
  intro args v new h
  unfold R at h
  split at h
  · rename_i xs m v
    simp only [Option.some.injEq, Prod.mk.injEq, decide_eq_true_eq] at h
    obtain ⟨⟨rfl, h1⟩, rfl, rfl⟩ := h
    refine ⟨0, ?_⟩
    rw [go]
    simp only [h1, pl_any, and_self, decide_true, decide_false, Bool.and_self, Bool.or_self, Bool.and_true, Bool.true_and, Bool.and_false, Bool.false_and, Bool.or_true, Bool.true_or, Bool.or_false, Bool.false_or, Bool.not_true, Bool.not_false, cond_true, cond_false]
  · cases h
theorem ok : EntOk Try.prog ⟨73, R⟩ :=
  ent_okA mixed (A := (orc [⟨78, l05Place.R⟩])) (orc_ok (by simp only [List.mem_cons, List.not_mem_nil, or_false, forall_eq_or_imp, forall_eq]; exact l05Place.ok)) Try.func73 (by kernel_rfl) (by kernel_rfl) (n := 11) (ts := [4]) (hd := hd0) (dr := Dr.std) (cut := none) (by kernel_rfl) (by kernel_rfl) (by kernel_rfl) run
end l05Takes

namespace l05Lists
def R : List AVal → Option (Bool × AVal × List Blk)
  | [.ro (.rows .i64 xs) m 1, .int .i64 v] => some (decide (m = xs.length ∧ m ≤ 4611686018427387904 ∧ 0 ≤ v ∧ v ≤ 4611686018427387904) && short.sp 4611686018427387904 xs, .bool (lo.sp v xs && decide ((m : Int) = v)), [])
  | _ => none
def hd : Nat → Head := fun i => bif eqN i 0 then ⟨[0, 1, 4, 8, 9], none⟩ else ⟨[0, 1, 4, 5, 8, 9, 16, 17], none⟩
noncomputable def L1 (f n : Nat) (s : State) := loopAt Try.prog (orc [⟨29, l00In.R⟩, ⟨72, l00Has.R⟩]) hd Dr.std 0 f (bodyOf Try.f54) 0 [true, false, true] (retK Try.prog [4] 0 none) n s
noncomputable def L2 (f n n2 : Nat) (s : State) := loopAt Try.prog (orc [⟨29, l00In.R⟩, ⟨72, l00Has.R⟩]) hd Dr.std 0 f (bodyAt (bodyOf Try.f54) [true, false, true]) (curAt (bodyOf Try.f54) 0 [true, false, true]) [true, true, false, true, true] (iterK (normE 0 (hd (curAt (bodyOf Try.f54) 0 [true, false, true]))) (L1 f n) (contAt Try.prog (orc [⟨29, l00In.R⟩, ⟨72, l00Has.R⟩]) hd Dr.std 0 f (bodyOf Try.f54) 0 [true, false, true] (retK Try.prog [4] 0 none))) n2 s
theorem start (xs : List (List Int)) (m : Nat) (v : Int) (f : Nat) :
  runFn Try.prog (orc [⟨29, l00In.R⟩, ⟨72, l00Has.R⟩]) hd Dr.std none f (bodyOf Try.f54) 53 [4] [.ro (.rows .i64 xs) m 1, .int .i64 v] []
  = (L1 f f (mkS (53 : Nat) [((0 : Nat), AVal.ro (Cont.rows IntKind.i64 xs) m (1 : Nat)), ((1 : Nat), AVal.int IntKind.i64 v), ((4 : Nat), AVal.bool false), ((8 : Nat), AVal.int IntKind.i64 (↑m : Int)), ((9 : Nat), AVal.int IntKind.i64 (0 : Int))] [])) := by kernel_rfl
theorem round1 (xs : List (List Int)) (m : Nat) (v : Int) (i : Nat) (f n : Nat) :
  L1 f (n + 1) (mkS 53 [(0, .ro (.rows .i64 xs) m 1), (1, .int .i64 v), (4, .bool false), (8, .int .i64 m), (9, .int .i64 i)] [])
  = (bif decide ((↑i : Int) < (↑m : Int)) then bif true && (decide ((0 : Int) ≤ (↑i : Int)) && decide ((↑i : Int) < (↑m : Int))) then bif decide ((↑i : Int).toNat < xs.length) then L2 f n f (mkS (53 : Nat) [((0 : Nat), AVal.ro (Cont.rows IntKind.i64 xs) m (1 : Nat)), ((1 : Nat), AVal.int IntKind.i64 v), ((4 : Nat), AVal.bool false), ((5 : Nat), AVal.int IntKind.i64 (↑i : Int)), ((8 : Nat), AVal.int IntKind.i64 (↑m : Int)), ((9 : Nat), AVal.int IntKind.i64 (↑i : Int)), ((16 : Nat), AVal.int IntKind.i64 (↑(gr xs (↑i : Int).toNat).length : Int)), ((17 : Nat), AVal.int IntKind.i64 (0 : Int))] []) else none else none else some (AVal.bool ((↑m : Int) == v), [])) := by kernel_rfl
theorem round2 (xs : List (List Int)) (m : Nat) (v : Int) (i r k : Nat) (f n n2 : Nat) :
  L2 f n (n2 + 1) (mkS 53 [(0, .ro (.rows .i64 xs) m 1), (1, .int .i64 v), (4, .bool false), (5, .int .i64 i), (8, .int .i64 m), (9, .int .i64 i), (16, .int .i64 (r : Nat)), (17, .int .i64 (k : Nat))] [])
  = (bif decide ((↑k : Int) < (↑r : Int)) then bif true && (decide ((0 : Int) ≤ (↑i : Int)) && decide ((↑i : Int) < (↑m : Int))) then bif decide ((↑i : Int).toNat < xs.length) then bif true && (decide ((0 : Int) ≤ (↑k : Int)) && decide ((↑k : Int) < (↑(gr xs (↑i : Int).toNat).length : Int))) then bif decide ((↑k : Int).toNat < (gr xs (↑i : Int).toNat).length) then bif true && (true && (true && (true && true)) || true && true) then bif !(decide ((0 : Int) ≤ gz (gr xs (↑i : Int).toNat) (↑k : Int).toNat) && decide (gz (gr xs (↑i : Int).toNat) (↑k : Int).toNat ≤ IntKind.i64.wrap (v - (1 : Int)))) then some (AVal.bool false, []) else bif true && (decide ((0 : Int) ≤ (↑i : Int)) && decide ((↑i : Int) < (↑m : Int))) then bif decide ((↑i : Int).toNat < xs.length) then bif true && (decide ((0 : Int) ≤ (↑k : Int)) && decide ((↑k : Int) ≤ (↑(gr xs (↑i : Int).toNat).length : Int)) && true) then bif true && (decide ((0 : Int) ≤ (↑i : Int)) && decide ((↑i : Int) < (↑m : Int))) then bif decide ((↑i : Int).toNat < xs.length) then bif true && (decide ((0 : Int) ≤ (↑k : Int)) && decide ((↑k : Int) < (↑(gr xs (↑i : Int).toNat).length : Int))) then bif decide ((↑k : Int).toNat < (gr xs (↑i : Int).toNat).length) then bif decide ((↑k : Int).toNat - (0 : Nat) ≤ (List.take ((↑k : Int).toNat - (0 : Nat)) (List.drop (nat_lit 0) (gr xs (↑i : Int).toNat))).length ∧ (↑k : Int).toNat - (0 : Nat) ≤ (4611686018427387904 : Nat)) && (true && (true && true) || true && true) then bif (List.take ((↑k : Int).toNat - (0 : Nat)) (List.take ((↑k : Int).toNat - (0 : Nat)) (List.drop (0 : Nat) (gr xs (↑i : Int).toNat)))).any (has.sp (gz (gr xs (↑i : Int).toNat) (↑k : Int).toNat)) then some (AVal.bool false, []) else L2 f n n2 (mkS (53 : Nat) [((0 : Nat), AVal.ro (Cont.rows IntKind.i64 xs) m (1 : Nat)), ((1 : Nat), AVal.int IntKind.i64 v), ((4 : Nat), AVal.bool false), ((5 : Nat), AVal.int IntKind.i64 (↑i : Int)), ((8 : Nat), AVal.int IntKind.i64 (↑m : Int)), ((9 : Nat), AVal.int IntKind.i64 (↑i : Int)), ((16 : Nat), AVal.int IntKind.i64 (↑r : Int)), ((17 : Nat), AVal.int IntKind.i64 (IntKind.i64.wrap ((↑k : Int) + (1 : Int))))] []) else none else none else none else none else none else none else none else none else none else none else none else none else none else L1 f n (mkS (53 : Nat) [((0 : Nat), AVal.ro (Cont.rows IntKind.i64 xs) m (1 : Nat)), ((1 : Nat), AVal.int IntKind.i64 v), ((4 : Nat), AVal.bool false), ((8 : Nat), AVal.int IntKind.i64 (↑m : Int)), ((9 : Nat), AVal.int IntKind.i64 (IntKind.i64.wrap ((↑i : Int) + (1 : Int))))] [])) := by kernel_rfl
theorem inner (xs : List (List Int)) (m : Nat) (v : Int) (f n i : Nat) (hm : m = xs.length) (hi : i < m) (hb : m ≤ 4611686018427387904) (hs : short.sp 4611686018427387904 xs = true) (hv : 0 ≤ v) (hv2 : v ≤ 4611686018427387904) : ∀ (d k n2 : Nat), k + d = (gr xs i).length → d < n2 →
    L2 f n n2 (mkS 53 [(0, .ro (.rows .i64 xs) m 1), (1, .int .i64 v), (4, .bool false), (5, .int .i64 i), (8, .int .i64 m), (9, .int .i64 i), (16, .int .i64 ((gr xs i).length : Nat)), (17, .int .i64 (k : Nat))] []) = bif uniq.sq v ((gr xs i).take k) ((gr xs i).drop k) then L1 f n (mkS 53 [(0, .ro (.rows .i64 xs) m 1), (1, .int .i64 v), (4, .bool false), (8, .int .i64 m), (9, .int .i64 ((i + 1 : Nat) : Int))] []) else some (.bool false, []) := by
  have h4 : (0 : Int) ≤ (i : Int) := Int.natCast_nonneg _
  have h5 : (i : Int) < (m : Int) := by omega
  have h2 : i < xs.length := by omega
  have hr : (gr xs i).length ≤ 4611686018427387904 := by rw [gr_eq h2]; exact short_get hs h2
  intro d
  induction d with
  | zero =>
    intro k n2 hk hn
    obtain ⟨n2, rfl⟩ : ∃ k, n2 = k + 1 := ⟨n2 - 1, by omega⟩
    obtain rfl : k = (gr xs i).length := by omega
    rw [round2, List.drop_length]
    simp -implicitDefEqProofs only [uniq.sq, Int.lt_irrefl, wrap_nat i (by omega), and_self, decide_true, decide_false, Bool.and_self, Bool.or_self, Bool.and_true, Bool.true_and, Bool.and_false, Bool.false_and, Bool.or_true, Bool.true_or, Bool.or_false, Bool.false_or, Bool.not_true, Bool.not_false, cond_true, cond_false]
  | succ d ih =>
    intro k n2 hk hn
    obtain ⟨n2, rfl⟩ : ∃ k, n2 = k + 1 := ⟨n2 - 1, by omega⟩
    have k1 : k < (gr xs i).length := by omega
    have k4 : (0 : Int) ≤ (k : Int) := Int.natCast_nonneg _
    have k5 : (k : Int) < ((gr xs i).length : Int) := by omega
    have k6 : (k : Int) ≤ ((gr xs i).length : Int) := by omega
    have a1 : k ≤ 4611686018427387904 := by omega
    have a2 : k ≤ (gr xs i).length := by omega
    have w : IntKind.i64.wrap (v - 1) = v - 1 := IntWalk.i64_in _ (by omega)
    have hih := ih (k + 1) n2 (by omega) (by omega)
    rw [List.drop_eq_getElem_cons k1]
    simp only [uniq.sq]
    rw [take_snoc k1, round2]
    simp -implicitDefEqProofs only [h4, h5, h2, k1, k4, k5, k6, a1, a2, w, gz_eq k1, List.drop_zero, Nat.mul_one, Nat.zero_mul, Nat.sub_zero, List.length_take, Nat.min_eq_left a2, Nat.le_refl, List.take_take, Nat.min_self, Int.toNat_natCast, wrap_nat k (by omega), and_self, decide_true, decide_false, Bool.and_self, Bool.or_self, Bool.and_true, Bool.true_and, Bool.and_false, Bool.false_and, Bool.or_true, Bool.true_or, Bool.or_false, Bool.false_or, Bool.not_true, Bool.not_false, cond_true, cond_false]
    rw [hih]
    generalize (decide (0 ≤ (gr xs i)[k]) && decide ((gr xs i)[k] ≤ v - 1)) = b1
    generalize ((gr xs i).take k).any (has.sp (gr xs i)[k]) = b2
    cases b1
    · simp -implicitDefEqProofs only [and_self, decide_true, decide_false, Bool.and_self, Bool.or_self, Bool.and_true, Bool.true_and, Bool.and_false, Bool.false_and, Bool.or_true, Bool.true_or, Bool.or_false, Bool.false_or, Bool.not_true, Bool.not_false, cond_true, cond_false]
    · cases b2
      · simp -implicitDefEqProofs only [and_self, decide_true, decide_false, Bool.and_self, Bool.or_self, Bool.and_true, Bool.true_and, Bool.and_false, Bool.false_and, Bool.or_true, Bool.true_or, Bool.or_false, Bool.false_or, Bool.not_true, Bool.not_false, cond_true, cond_false]
      · simp -implicitDefEqProofs only [and_self, decide_true, decide_false, Bool.and_self, Bool.or_self, Bool.and_true, Bool.true_and, Bool.and_false, Bool.false_and, Bool.or_true, Bool.true_or, Bool.or_false, Bool.false_or, Bool.not_true, Bool.not_false, cond_true, cond_false]
theorem outer (xs : List (List Int)) (m : Nat) (v : Int) (f : Nat) (hf : ∀ r ∈ xs, r.length < f) (hm : m = xs.length) (hb : m ≤ 4611686018427387904) (hs : short.sp 4611686018427387904 xs = true) (hv : 0 ≤ v) (hv2 : v ≤ 4611686018427387904) : ∀ (d i n : Nat), i + d = m → d < n →
    L1 f n (mkS 53 [(0, .ro (.rows .i64 xs) m 1), (1, .int .i64 v), (4, .bool false), (8, .int .i64 m), (9, .int .i64 i)] []) = some (.bool ((xs.drop i).all (rk.sp v) && decide ((m : Int) = v)), []) := by
  intro d
  induction d with
  | zero =>
    intro i n hi hn
    obtain ⟨n, rfl⟩ : ∃ k, n = k + 1 := ⟨n - 1, by omega⟩
    obtain rfl : i = m := by omega
    have e : xs.drop i = [] := List.drop_of_length_le (by omega)
    have e2 : (((i : Nat) : Int) == v) = decide ((i : Int) = v) := rfl
    rw [round1 (v := v), e]
    simp -implicitDefEqProofs only [Int.lt_irrefl, e2, List.all_nil, and_self, decide_true, decide_false, Bool.and_self, Bool.or_self, Bool.and_true, Bool.true_and, Bool.and_false, Bool.false_and, Bool.or_true, Bool.true_or, Bool.or_false, Bool.false_or, Bool.not_true, Bool.not_false, cond_true, cond_false]
  | succ d ih =>
    intro i n hi hn
    obtain ⟨n, rfl⟩ : ∃ k, n = k + 1 := ⟨n - 1, by omega⟩
    have h1 : i < m := by omega
    have h4 : (0 : Int) ≤ (i : Int) := Int.natCast_nonneg _
    have h5 : (i : Int) < (m : Int) := by omega
    have h2 : i < xs.length := by omega
    have hl : (gr xs i).length < f := by rw [gr_eq h2]; exact hf _ (List.getElem_mem h2)
    have hin := inner xs m v f n i hm h1 hb hs hv hv2 (gr xs i).length 0 f (by omega) hl
    rw [List.take_zero, List.drop_zero] at hin
    have hih := ih (i + 1) n (by omega) (by omega)
    rw [round1, List.drop_eq_getElem_cons h2, List.all_cons]
    have hh : rk.sp v xs[i] = uniq.sq v [] (gr xs i) := by rw [gr_eq h2]; rfl
    rw [hh]
    simp -implicitDefEqProofs only [h4, h5, h2, Int.toNat_natCast, and_self, decide_true, decide_false, Bool.and_self, Bool.or_self, Bool.and_true, Bool.true_and, Bool.and_false, Bool.false_and, Bool.or_true, Bool.true_or, Bool.or_false, Bool.false_or, Bool.not_true, Bool.not_false, cond_true, cond_false]
    refine hin.trans ?_
    rw [hih]
    generalize uniq.sq v [] (gr xs i) = b
    cases b
    · simp -implicitDefEqProofs only [and_self, decide_true, decide_false, Bool.and_self, Bool.or_self, Bool.and_true, Bool.true_and, Bool.and_false, Bool.false_and, Bool.or_true, Bool.true_or, Bool.or_false, Bool.false_or, Bool.not_true, Bool.not_false, cond_true, cond_false]
    · simp -implicitDefEqProofs only [and_self, decide_true, decide_false, Bool.and_self, Bool.or_self, Bool.and_true, Bool.true_and, Bool.and_false, Bool.false_and, Bool.or_true, Bool.true_or, Bool.or_false, Bool.false_or, Bool.not_true, Bool.not_false, cond_true, cond_false]
theorem run : ∀ args v new, R args = some (true, v, new) → ∃ fuel, runFn Try.prog (orc [⟨29, l00In.R⟩, ⟨72, l00Has.R⟩]) hd Dr.std none fuel (bodyOf Try.f54) 53 [4] args [] = some (v, new) := by
  intro args v new h
  unfold R at h
  split at h
  · rename_i xs m v
    simp only [Option.some.injEq, Prod.mk.injEq, Bool.and_eq_true, decide_eq_true_eq] at h
    obtain ⟨⟨⟨h1, h2, h3, h4⟩, h5⟩, rfl, rfl⟩ := h
    obtain ⟨B, hB⟩ := len_bound xs
    obtain ⟨F, hF⟩ : ∃ F : Nat, F = m + 1 + B := ⟨_, rfl⟩
    refine ⟨F, ?_⟩
    rw [start]
    have hl := outer xs m v F (fun r hr => by have := hB r hr; omega) h1 h2 h5 h3 h4 m 0 F (by omega) (by omega)
    rw [List.drop_zero] at hl
    exact hl
  · cases h
theorem ok : EntOk Try.prog ⟨54, R⟩ :=
  ent_okA mixed (A := (orc [⟨29, l00In.R⟩, ⟨72, l00Has.R⟩])) (orc_ok (by simp only [List.mem_cons, List.not_mem_nil, or_false, forall_eq_or_imp, forall_eq]; exact ⟨l00In.ok, l00Has.ok⟩)) Try.func54 (by kernel_rfl) (by kernel_rfl) (n := 53) (ts := [4]) (hd := hd) (dr := Dr.std) (cut := none) (by kernel_rfl) (by kernel_rfl) (by kernel_rfl) run
end l05Lists

namespace l05Is
def R : List AVal → Option (Bool × AVal × List Blk)
  | [.rom [.ro (.rows .i64 ls) m 1, .ro (.rows .i64 rs) k 1] 0] => some (decide (m = ls.length ∧ m ≤ 4611686018427387904 ∧ k = rs.length ∧ k ≤ 4611686018427387904) && (short.sp 4611686018427387904 ls && short.sp 4611686018427387904 rs), .bool (vw.sp ls rs), [])
  | _ => none
theorem go (ls rs : List (List Int)) (m k : Nat) :
  runFn Try.prog (orc [⟨54, l05Lists.R⟩]) hd0 Dr.std none 0 (bodyOf Try.f61) 31 [2] [.rom [.ro (.rows .i64 ls) m 1, .ro (.rows .i64 rs) k 1] 0] []
  = (bif decide ((1 : Int) ≤ (↑m : Int)) then bif decide ((↑m : Int) ≤ (8 : Int)) then bif decide (m = ls.length ∧ m ≤ (4611686018427387904 : Nat) ∧ (0 : Int) ≤ (↑m : Int) ∧ (↑m : Int) ≤ (4611686018427387904 : Int)) && short.sp (4611686018427387904 : Nat) ls && (true && (true && true) || true && true) then bif lo.sp (↑m : Int) ls && decide ((↑m : Int) = (↑m : Int)) then bif decide (k = rs.length ∧ k ≤ (4611686018427387904 : Nat) ∧ (0 : Int) ≤ (↑m : Int) ∧ (↑m : Int) ≤ (4611686018427387904 : Int)) && short.sp (4611686018427387904 : Nat) rs && (true && (true && true) || true && true) then some (AVal.bool (lo.sp (↑m : Int) rs && decide ((↑k : Int) = (↑m : Int))), []) else none else some (AVal.bool false, []) else none else some (AVal.bool false, []) else some (AVal.bool false, [])) := by kernel_rfl
theorem run : ∀ args v new, R args = some (true, v, new) → ∃ fuel, runFn Try.prog (orc [⟨54, l05Lists.R⟩]) hd0 Dr.std none fuel (bodyOf Try.f61) 31 [2] args [] = some (v, new) := by
  intro args v new h
  unfold R at h
  split at h
  · rename_i ls m rs k
    simp only [Option.some.injEq, Prod.mk.injEq, Bool.and_eq_true, decide_eq_true_eq] at h
    obtain ⟨⟨⟨rfl, h1, rfl, h2⟩, h3, h4⟩, rfl, rfl⟩ := h
    refine ⟨0, ?_⟩
    rw [go]
    unfold vw.sp
    have n1 : (0 : Int) ≤ (ls.length : Int) := Int.natCast_nonneg _
    have n2 : (ls.length : Int) ≤ 4611686018427387904 := by omega
    simp only [h1, h2, h3, h4, n1, n2, and_self, decide_true, decide_false, Bool.and_self, Bool.or_self, Bool.and_true, Bool.true_and, Bool.and_false, Bool.false_and, Bool.or_true, Bool.true_or, Bool.or_false, Bool.false_or, Bool.not_true, Bool.not_false, cond_true, cond_false]
    by_cases a1 : (1 : Int) ≤ (ls.length : Int)
    · by_cases a2 : (ls.length : Int) ≤ 8
      · by_cases hq : (rs.length : Int) = (ls.length : Int)
        · have hq' : (ls.length : Int) = (rs.length : Int) := hq.symm
          simp only [hq, a1, a2, and_self, decide_true, decide_false, Bool.and_self, Bool.or_self, Bool.and_true, Bool.true_and, Bool.and_false, Bool.false_and, Bool.or_true, Bool.true_or, Bool.or_false, Bool.false_or, Bool.not_true, Bool.not_false, cond_true, cond_false]
          generalize lo.sp (ls.length : Int) ls = b
          generalize lo.sp (ls.length : Int) rs = c
          cases b <;> cases c <;> rfl
        · have hq' : ¬ ((ls.length : Int) = (rs.length : Int)) := fun h => hq h.symm
          simp only [hq, hq', a1, a2, and_self, decide_true, decide_false, Bool.and_self, Bool.or_self, Bool.and_true, Bool.true_and, Bool.and_false, Bool.false_and, Bool.or_true, Bool.true_or, Bool.or_false, Bool.false_or, Bool.not_true, Bool.not_false, cond_true, cond_false]
          generalize lo.sp (ls.length : Int) ls = b
          cases b <;> rfl
      · simp only [a1, a2, and_self, decide_true, decide_false, Bool.and_self, Bool.or_self, Bool.and_true, Bool.true_and, Bool.and_false, Bool.false_and, Bool.or_true, Bool.true_or, Bool.or_false, Bool.false_or, Bool.not_true, Bool.not_false, cond_true, cond_false]
    · simp only [a1, and_self, decide_true, decide_false, Bool.and_self, Bool.or_self, Bool.and_true, Bool.true_and, Bool.and_false, Bool.false_and, Bool.or_true, Bool.true_or, Bool.or_false, Bool.false_or, Bool.not_true, Bool.not_false, cond_true, cond_false]
  · cases h
theorem ok : EntOk Try.prog ⟨61, R⟩ :=
  ent_okA mixed (A := (orc [⟨54, l05Lists.R⟩])) (orc_ok (by simp only [List.mem_cons, List.not_mem_nil, or_false, forall_eq_or_imp, forall_eq]; exact l05Lists.ok)) Try.func61 (by kernel_rfl) (by kernel_rfl) (n := 31) (ts := [2]) (hd := hd0) (dr := Dr.std) (cut := none) (by kernel_rfl) (by kernel_rfl) (by kernel_rfl) run
end l05Is

namespace l05Ones
def R : List AVal → Option (Bool × AVal × List Blk)
  | [.int .i64 k] => some (decide (0 ≤ k ∧ k ≤ 1000), .own 0 0 k.toNat 0 1, [⟨.typ (.ints .i64 (List.replicate k.toNat 1)), 0⟩])
  | _ => none
def hd : Nat → Head := fun _ => ⟨[0, 3], some 1⟩
noncomputable def L (f n : Nat) (s : State) := loopAt Try.prog (orc []) hd Dr.std 0 f (bodyOf Try.f63) 0 [true, true, false] (retK Try.prog [2] 0 (some 1)) n s
theorem start (k : Int) (f : Nat) :
  runFn Try.prog (orc []) hd Dr.std (some 1) f (bodyOf Try.f63) 13 [2] [.int .i64 k] []
  = (L f f (mkS (13 : Nat) [((0 : Nat), AVal.int IntKind.i64 k), ((3 : Nat), AVal.own (0 : Nat) (0 : Nat) (0 : Nat) (0 : Nat) (1 : Nat))] [{ c := BC.typ (Cont.ints IntKind.i64 (List.replicate (0 : Nat) (0 : Int))), ver := (0 : Nat) }])) := by kernel_rfl
theorem round (xs : List Int) (k : Int) (f n : Nat) :
  L f (n + 1) (mkS 13 [(0, .int .i64 k), (3, .own 0 0 xs.length 0 1)] [⟨.typ (.ints .i64 xs), 0⟩])
  = (bif decide ((0 : Int) < k) then bif (1 : Nat) == (1 : Nat) && (1 : Nat) == (1 : Nat) && (true && (true && true) && (true && true && (decide (xs.length + (1 : Nat) ≤ (4611686018427387904 : Nat)) && decide ((xs.length + (1 : Nat)) * (8 : Nat) ≤ (140737488355328 : Nat))))) then L f n (mkS (13 : Nat) [((0 : Nat), AVal.int IntKind.i64 (IntKind.i64.wrap (k - (1 : Int)))), ((3 : Nat), AVal.own (0 : Nat) (0 : Nat) (xs.length + (1 : Nat)) (0 : Nat) (1 : Nat))] [{ c := BC.typ (Cont.ints IntKind.i64 (List.take xs.length xs ++ List.take (1 : Nat) (List.drop (0 : Nat) ((List.replicate (1 : Nat) (0 : Int)).set (0 : Nat) (1 : Int))))), ver := (0 : Nat) }]) else none else some (AVal.own (0 : Nat) (0 : Nat) xs.length (0 : Nat) (1 : Nat), [{ c := BC.typ (Cont.ints IntKind.i64 xs), ver := (0 : Nat) }])) := by kernel_rfl
theorem loop (f : Nat) : ∀ (d n : Nat) (xs : List Int), xs.length + d ≤ 1000 → d < n →
    L f n (mkS 13 [(0, .int .i64 ((d : Nat) : Int)), (3, .own 0 0 xs.length 0 1)] [⟨.typ (.ints .i64 xs), 0⟩]) = some (.own 0 0 (xs ++ List.replicate d 1).length 0 1, [⟨.typ (.ints .i64 (xs ++ List.replicate d 1)), 0⟩]) := by
  intro d
  induction d with
  | zero =>
    intro n xs hx hn
    obtain ⟨n, rfl⟩ : ∃ k, n = k + 1 := ⟨n - 1, by omega⟩
    rw [round]
    simp
  | succ d ih =>
    intro n xs hx hn
    obtain ⟨n, rfl⟩ : ∃ k, n = k + 1 := ⟨n - 1, by omega⟩
    have hih := ih n (xs ++ [1]) (by simp; omega) (by omega)
    have e : xs ++ [1] ++ List.replicate d 1 = xs ++ List.replicate (d + 1) 1 := by simp [List.replicate_succ]
    rw [e] at hih
    have h1 : (0 : Int) < ((d + 1 : Nat) : Int) := by omega
    have k0 : xs.length + 1 ≤ 4611686018427387904 := by omega
    have k1 : (xs.length + 1) * 8 ≤ 140737488355328 := by omega
    have w : IntKind.i64.wrap (((d + 1 : Nat) : Int) - 1) = (d : Int) := by rw [IntWalk.i64_in _ (by omega)]; omega
    have one : (List.replicate 1 (0 : Int)).set 0 1 = [1] := rfl
    rw [← hih, round]
    simp -implicitDefEqProofs only [h1, k0, k1, w, one, List.drop_zero, List.take_length, List.length_append, List.length_singleton, List.take_succ_cons, List.take_zero, Nat.reduceBEq, Int.toNat_natCast, and_self, decide_true, decide_false, Bool.and_self, Bool.or_self, Bool.and_true, Bool.true_and, Bool.and_false, Bool.false_and, Bool.or_true, Bool.true_or, Bool.or_false, Bool.false_or, Bool.not_true, Bool.not_false, cond_true, cond_false]
theorem run : ∀ args v new, R args = some (true, v, new) → ∃ fuel, runFn Try.prog (orc []) hd Dr.std (some 1) fuel (bodyOf Try.f63) 13 [2] args [] = some (v, new) := by
  intro args v new h
  unfold R at h
  split at h
  · rename_i k
    simp only [Option.some.injEq, Prod.mk.injEq, decide_eq_true_eq] at h
    obtain ⟨⟨h1, h2⟩, rfl, rfl⟩ := h
    obtain ⟨d, rfl⟩ : ∃ d : Nat, k = (d : Int) := ⟨k.toNat, by omega⟩
    obtain ⟨F, hF⟩ : ∃ F : Nat, F = d + 1 := ⟨_, rfl⟩
    refine ⟨F, ?_⟩
    rw [start]
    have hl := loop F d F [] (by simp; omega) (by omega)
    simpa using hl
  · cases h
theorem ok : EntOk Try.prog ⟨63, R⟩ :=
  ent_okA mixed (A := (orc [])) (orc_ok (by simp)) Try.func63 (by kernel_rfl) (by kernel_rfl) (n := 13) (ts := [2]) (hd := hd) (dr := Dr.std) (cut := (some 1)) (by kernel_rfl) (by kernel_rfl) (by kernel_rfl) run
end l05Ones

namespace bMul64
def R : List AVal → Option (Bool × AVal × List Blk)
  | [.int .u64 a, .int .u64 y] => some (decide (a = 1 ∧ 1 ≤ y ∧ y ≤ 8), .tup [.int .u64 0, .int .u64 y], [])
  | _ => none
theorem run : ∀ args v new, R args = some (true, v, new) → ∃ fuel, runFn Try.prog (orc []) hd0 Dr.std none fuel (bodyOf Try.f94) 51 [4, 5] args [] = some (v, new) := by
  intro args v new h
  unfold R at h
  split at h
  · rename_i a y
    simp only [Option.some.injEq, Prod.mk.injEq, decide_eq_true_eq] at h
    obtain ⟨⟨rfl, h1, h2⟩, rfl, rfl⟩ := h
    have hc : y = 1 ∨ y = 2 ∨ y = 3 ∨ y = 4 ∨ y = 5 ∨ y = 6 ∨ y = 7 ∨ y = 8 := by omega
    rcases hc with rfl | rfl | rfl | rfl | rfl | rfl | rfl | rfl <;> exact ⟨0, by kernel_rfl⟩
  · cases h
theorem ok : EntOk Try.prog ⟨94, R⟩ :=
  ent_okA mixed (A := (orc [])) (orc_ok (by simp)) Try.func94 (by kernel_rfl) (by kernel_rfl) (n := 51) (ts := [4, 5]) (hd := hd0) (dr := Dr.std) (cut := none) (by kernel_rfl) (by kernel_rfl) (by kernel_rfl) run
end bMul64

namespace bMul
def R : List AVal → Option (Bool × AVal × List Blk)
  | [.int .u64 a, .int .u64 y] => some (decide (a = 1 ∧ 1 ≤ y ∧ y ≤ 8), .tup [.int .u64 0, .int .u64 y], [])
  | _ => none
theorem run : ∀ args v new, R args = some (true, v, new) → ∃ fuel, runFn Try.prog (orc [⟨94, bMul64.R⟩]) hd0 Dr.std none fuel (bodyOf Try.f92) 30 [4, 5] args [] = some (v, new) := by
  intro args v new h
  unfold R at h
  split at h
  · rename_i a y
    simp only [Option.some.injEq, Prod.mk.injEq, decide_eq_true_eq] at h
    obtain ⟨⟨rfl, h1, h2⟩, rfl, rfl⟩ := h
    have hc : y = 1 ∨ y = 2 ∨ y = 3 ∨ y = 4 ∨ y = 5 ∨ y = 6 ∨ y = 7 ∨ y = 8 := by omega
    rcases hc with rfl | rfl | rfl | rfl | rfl | rfl | rfl | rfl <;> exact ⟨0, by kernel_rfl⟩
  · cases h
theorem ok : EntOk Try.prog ⟨92, R⟩ :=
  ent_okA mixed (A := (orc [⟨94, bMul64.R⟩])) (orc_ok (by simp only [List.mem_cons, List.not_mem_nil, or_false, forall_eq_or_imp, forall_eq]; exact bMul64.ok)) Try.func92 (by kernel_rfl) (by kernel_rfl) (n := 30) (ts := [4, 5]) (hd := hd0) (dr := Dr.std) (cut := none) (by kernel_rfl) (by kernel_rfl) (by kernel_rfl) run
end bMul

namespace slRepeat
def R : List AVal → Option (Bool × AVal × List Blk)
  | [.ro (.ints .i64 xs) m 1, .int .i64 k] => some (decide (m = 1 ∧ xs.length = 1 ∧ 1 ≤ k ∧ k ≤ 8), .own 0 0 k.toNat 0 1, [⟨.typ (.ints .i64 (List.replicate k.toNat (gz xs 0))), 0⟩])
  | _ => none
def hd : Nat → Head := fun _ => ⟨[7, 8], some 1⟩
theorem run : ∀ args v new, R args = some (true, v, new) → ∃ fuel, runFn Try.prog (orc [⟨92, bMul.R⟩]) hd Dr.std (some 1) fuel (bodyOf Try.f86) 48 [4] args [] = some (v, new) := by
  intro args v new h
  unfold R at h
  split at h
  · rename_i xs m k
    simp only [Option.some.injEq, Prod.mk.injEq, decide_eq_true_eq] at h
    obtain ⟨⟨rfl, hx, h1, h2⟩, rfl, rfl⟩ := h
    obtain ⟨c, rfl⟩ := List.length_eq_one_iff.1 hx
    have hc : k = 1 ∨ k = 2 ∨ k = 3 ∨ k = 4 ∨ k = 5 ∨ k = 6 ∨ k = 7 ∨ k = 8 := by omega
    rcases hc with rfl | rfl | rfl | rfl | rfl | rfl | rfl | rfl <;> exact ⟨10, by kernel_rfl⟩
  · cases h
theorem ok : EntOk Try.prog ⟨86, R⟩ :=
  ent_okA mixed (A := (orc [⟨92, bMul.R⟩])) (orc_ok (by simp only [List.mem_cons, List.not_mem_nil, or_false, forall_eq_or_imp, forall_eq]; exact bMul.ok)) Try.func86 (by kernel_rfl) (by kernel_rfl) (n := 48) (ts := [4]) (hd := hd) (dr := Dr.std) (cut := (some 1)) (by kernel_rfl) (by kernel_rfl) (by kernel_rfl) run
end slRepeat

namespace iNone
def R : List AVal → Option (Bool × AVal × List Blk)
  | [.int .i64 k] => some (decide (1 ≤ k ∧ k ≤ 8), .own 0 0 k.toNat 0 1, [⟨.typ (.ints .i64 (List.replicate k.toNat (-1))), 0⟩])
  | _ => none
theorem run : ∀ args v new, R args = some (true, v, new) → ∃ fuel, regc [1] (runFn Try.prog (orc [⟨86, slRepeat.R⟩]) hd0 Dr.std none fuel (bodyOf Try.f80) 6 [2] args []) = some (v, new) := by
  intro args v new h
  unfold R at h
  split at h
  · rename_i k
    simp only [Option.some.injEq, Prod.mk.injEq, decide_eq_true_eq] at h
    obtain ⟨⟨h1, h2⟩, rfl, rfl⟩ := h
    have hc : k = 1 ∨ k = 2 ∨ k = 3 ∨ k = 4 ∨ k = 5 ∨ k = 6 ∨ k = 7 ∨ k = 8 := by omega
    rcases hc with rfl | rfl | rfl | rfl | rfl | rfl | rfl | rfl <;> exact ⟨0, by kernel_rfl⟩
  · cases h
theorem ok : EntOk Try.prog ⟨80, R⟩ :=
  ent_okAG (ks := [1]) mixed (A := (orc [⟨86, slRepeat.R⟩])) (orc_ok (by simp only [List.mem_cons, List.not_mem_nil, or_false, forall_eq_or_imp, forall_eq]; exact slRepeat.ok)) Try.func80 (by kernel_rfl) (by kernel_rfl) (n := 6) (ts := [2]) (hd := hd0) (dr := Dr.std) (cut := none) (by kernel_rfl) (by kernel_rfl) (by kernel_rfl) run
end iNone

namespace iOnes
def R : List AVal → Option (Bool × AVal × List Blk)
  | [.agg [.ro (.rows .i64 ls) m 1, .ro (.rows .i64 rs) q 1]] => some (decide (1 ≤ m ∧ m ≤ 8), .own 0 0 m 0 1, [⟨.typ (.ints .i64 (List.replicate m 1)), 0⟩])
  | _ => none
theorem run : ∀ args v new, R args = some (true, v, new) → ∃ fuel, regc [2] (runFn Try.prog (orc [⟨81, iCount.R⟩, ⟨86, slRepeat.R⟩]) hd0 Dr.std none fuel (bodyOf Try.f66) 7 [2] args []) = some (v, new) := by
  intro args v new h
  unfold R at h
  split at h
  · rename_i ls m rs q
    simp only [Option.some.injEq, Prod.mk.injEq, decide_eq_true_eq] at h
    obtain ⟨⟨h1, h2⟩, rfl, rfl⟩ := h
    have hc : m = 1 ∨ m = 2 ∨ m = 3 ∨ m = 4 ∨ m = 5 ∨ m = 6 ∨ m = 7 ∨ m = 8 := by omega
    rcases hc with rfl | rfl | rfl | rfl | rfl | rfl | rfl | rfl <;> exact ⟨0, by kernel_rfl⟩
  · cases h
theorem ok : EntOk Try.prog ⟨66, R⟩ :=
  ent_okAG (ks := [2]) mixed (A := (orc [⟨81, iCount.R⟩, ⟨86, slRepeat.R⟩])) (orc_ok (by simp only [List.mem_cons, List.not_mem_nil, or_false, forall_eq_or_imp, forall_eq]; exact ⟨iCount.ok, slRepeat.ok⟩)) Try.func66 (by kernel_rfl) (by kernel_rfl) (n := 7) (ts := [2]) (hd := hd0) (dr := Dr.std) (cut := none) (by kernel_rfl) (by kernel_rfl) (by kernel_rfl) run
end iOnes

end Go.Proofs.Ythecninmmojkgaa.Ab
