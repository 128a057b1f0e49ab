/-
  Functions: turns and rounds of envy.
-/
import Derived.Test.YtkoongajnnaeoaaFnQP
import Derived.Test.YtkoongajnnaeoaaFnZA
namespace Go.Proofs.Ytkoongajnnaeoaa.Ab
open Go
set_option linter.unusedVariables false
set_option linter.unusedSimpArgs false
set_option maxRecDepth 100000

namespace bMul64
def R : List AVal → Option (Bool × AVal × List Blk)
  | [.int .u64 a, .int .u64 y] => some (decide (a = 1 ∧ 1 ≤ y ∧ y ≤ 8), .tup [.int .u64 0, .int .u64 y], [])
  | _ => none
theorem run : ∀ args v new, R args = some (true, v, new) → ∃ fuel, runFn Try.prog (orc []) hd0 Dr.std none fuel (bodyOf Try.f171) 51 [4, 5] args [] = some (v, new) := by
  intro args v new h
  unfold R at h
  split at h
  · rename_i a y
    simp only [Option.some.injEq, Prod.mk.injEq, decide_eq_true_eq] at h
    obtain ⟨⟨rfl, h1, h2⟩, rfl, rfl⟩ := h
    have hc : y = 1 ∨ y = 2 ∨ y = 3 ∨ y = 4 ∨ y = 5 ∨ y = 6 ∨ y = 7 ∨ y = 8 := by omega
    rcases hc with rfl | rfl | rfl | rfl | rfl | rfl | rfl | rfl <;> exact ⟨0, by kernel_rfl⟩
  · cases h
theorem ok : EntOk Try.prog ⟨171, R⟩ :=
  ent_okA mixed (A := (orc [])) (orc_ok (by simp)) Try.func171 (by kernel_rfl) (by kernel_rfl) (n := 51) (ts := [4, 5]) (hd := hd0) (dr := Dr.std) (cut := none) (by kernel_rfl) (by kernel_rfl) (by kernel_rfl) run
end bMul64

namespace bMul
def R : List AVal → Option (Bool × AVal × List Blk)
  | [.int .u64 a, .int .u64 y] => some (decide (a = 1 ∧ 1 ≤ y ∧ y ≤ 8), .tup [.int .u64 0, .int .u64 y], [])
  | _ => none
theorem run : ∀ args v new, R args = some (true, v, new) → ∃ fuel, runFn Try.prog (orc [⟨171, bMul64.R⟩]) hd0 Dr.std none fuel (bodyOf Try.f145) 30 [4, 5] args [] = some (v, new) := by
  intro args v new h
  unfold R at h
  split at h
  · rename_i a y
    simp only [Option.some.injEq, Prod.mk.injEq, decide_eq_true_eq] at h
    obtain ⟨⟨rfl, h1, h2⟩, rfl, rfl⟩ := h
    have hc : y = 1 ∨ y = 2 ∨ y = 3 ∨ y = 4 ∨ y = 5 ∨ y = 6 ∨ y = 7 ∨ y = 8 := by omega
    rcases hc with rfl | rfl | rfl | rfl | rfl | rfl | rfl | rfl <;> exact ⟨0, by kernel_rfl⟩
  · cases h
theorem ok : EntOk Try.prog ⟨145, R⟩ :=
  ent_okA mixed (A := (orc [⟨171, bMul64.R⟩])) (orc_ok (by simp only [List.mem_cons, List.not_mem_nil, or_false, forall_eq_or_imp, forall_eq]; exact bMul64.ok)) Try.func145 (by kernel_rfl) (by kernel_rfl) (n := 30) (ts := [4, 5]) (hd := hd0) (dr := Dr.std) (cut := none) (by kernel_rfl) (by kernel_rfl) (by kernel_rfl) run
end bMul

namespace slRepeat
def R : List AVal → Option (Bool × AVal × List Blk)
  | [.ro (.ints .i64 xs) m 1, .int .i64 k] => some (decide (m = 1 ∧ xs.length = 1 ∧ 1 ≤ k ∧ k ≤ 8), .own 0 0 k.toNat 0 1, [⟨.typ (.ints .i64 (List.replicate k.toNat (gz xs 0))), 0⟩])
  | _ => none
def hd : Nat → Head := fun _ => ⟨[7, 8], some 1⟩
theorem run : ∀ args v new, R args = some (true, v, new) → ∃ fuel, runFn Try.prog (orc [⟨145, bMul.R⟩]) hd Dr.std (some 1) fuel (bodyOf Try.f144) 48 [4] args [] = some (v, new) := by
  intro args v new h
  unfold R at h
  split at h
  · rename_i xs m k
    simp only [Option.some.injEq, Prod.mk.injEq, decide_eq_true_eq] at h
    obtain ⟨⟨rfl, hx, h1, h2⟩, rfl, rfl⟩ := h
    obtain ⟨c, rfl⟩ := List.length_eq_one_iff.1 hx
    have hc : k = 1 ∨ k = 2 ∨ k = 3 ∨ k = 4 ∨ k = 5 ∨ k = 6 ∨ k = 7 ∨ k = 8 := by omega
    rcases hc with rfl | rfl | rfl | rfl | rfl | rfl | rfl | rfl <;> exact ⟨10, by kernel_rfl⟩
  · cases h
theorem ok : EntOk Try.prog ⟨144, R⟩ :=
  ent_okA mixed (A := (orc [⟨145, bMul.R⟩])) (orc_ok (by simp only [List.mem_cons, List.not_mem_nil, or_false, forall_eq_or_imp, forall_eq]; exact bMul.ok)) Try.func144 (by kernel_rfl) (by kernel_rfl) (n := 48) (ts := [4]) (hd := hd) (dr := Dr.std) (cut := (some 1)) (by kernel_rfl) (by kernel_rfl) (by kernel_rfl) run
end slRepeat

namespace iNone
def R : List AVal → Option (Bool × AVal × List Blk)
  | [.int .i64 k] => some (decide (1 ≤ k ∧ k ≤ 8), .own 0 0 k.toNat 0 1, [⟨.typ (.ints .i64 (List.replicate k.toNat (-1))), 0⟩])
  | _ => none
theorem run : ∀ args v new, R args = some (true, v, new) → ∃ fuel, regc [1] (runFn Try.prog (orc [⟨144, slRepeat.R⟩]) hd0 Dr.std none fuel (bodyOf Try.f95) 6 [2] args []) = some (v, new) := by
  intro args v new h
  unfold R at h
  split at h
  · rename_i k
    simp only [Option.some.injEq, Prod.mk.injEq, decide_eq_true_eq] at h
    obtain ⟨⟨h1, h2⟩, rfl, rfl⟩ := h
    have hc : k = 1 ∨ k = 2 ∨ k = 3 ∨ k = 4 ∨ k = 5 ∨ k = 6 ∨ k = 7 ∨ k = 8 := by omega
    rcases hc with rfl | rfl | rfl | rfl | rfl | rfl | rfl | rfl <;> exact ⟨0, by kernel_rfl⟩
  · cases h
theorem ok : EntOk Try.prog ⟨95, R⟩ :=
  ent_okAG (ks := [1]) mixed (A := (orc [⟨144, slRepeat.R⟩])) (orc_ok (by simp only [List.mem_cons, List.not_mem_nil, or_false, forall_eq_or_imp, forall_eq]; exact slRepeat.ok)) Try.func95 (by kernel_rfl) (by kernel_rfl) (n := 6) (ts := [2]) (hd := hd0) (dr := Dr.std) (cut := none) (by kernel_rfl) (by kernel_rfl) (by kernel_rfl) run
end iNone





namespace slIndexQ
def R : List AVal → Option (Bool × AVal × List Blk)
  | [.ro (.ints .i64 xs) m 1, .int .i64 v] => some (decide (m ≤ xs.length ∧ m ≤ 4611686018427387904), .int .i64 (fidx.sq (fun y => v == y) (xs.take m) 0), [])
  | _ => none
def hd : Nat → Head := fun _ => ⟨[0, 1, 4, 7, 8], none⟩
noncomputable def L (f n : Nat) (s : State) := loopAt Try.prog (orc []) hd Dr.std 0 f (bodyOf Try.f109) 0 [true, false, true] (retK Try.prog [4] 0 none) n s
theorem start (xs : List Int) (m : Nat) (v : Int) (f : Nat) :
  runFn Try.prog (orc []) hd Dr.std none f (bodyOf Try.f109) 19 [4] [.ro (.ints .i64 xs) m 1, .int .i64 v] []
  = (L f f (mkS (19 : Nat) [((0 : Nat), AVal.ro (Cont.ints IntKind.i64 xs) m (1 : Nat)), ((1 : Nat), AVal.int IntKind.i64 v), ((4 : Nat), AVal.int IntKind.i64 (0 : Int)), ((7 : Nat), AVal.int IntKind.i64 (↑m : Int)), ((8 : Nat), AVal.int IntKind.i64 (0 : Int))] [])) := by kernel_rfl
theorem round (xs : List Int) (m : Nat) (v : Int) (i : Nat) (f n : Nat) :
  L f (n + 1) (mkS 19 [(0, .ro (.ints .i64 xs) m 1), (1, .int .i64 v), (4, .int .i64 0), (7, .int .i64 m), (8, .int .i64 i)] [])
  = (bif decide ((↑i : Int) < (↑m : Int)) then bif true && (decide ((0 : Int) ≤ (↑i : Int)) && decide ((↑i : Int) < (↑m : Int))) then bif decide ((↑i : Int).toNat < xs.length) then bif v == gz xs (↑i : Int).toNat then some (AVal.int IntKind.i64 (↑i : Int), []) else L f n (mkS (19 : Nat) [((0 : Nat), AVal.ro (Cont.ints IntKind.i64 xs) m (1 : Nat)), ((1 : Nat), AVal.int IntKind.i64 v), ((4 : Nat), AVal.int IntKind.i64 (0 : Int)), ((7 : Nat), AVal.int IntKind.i64 (↑m : Int)), ((8 : Nat), AVal.int IntKind.i64 (IntKind.i64.wrap ((↑i : Int) + (1 : Int))))] []) else none else none else some (AVal.int IntKind.i64 (-1 : Int), [])) := by kernel_rfl
theorem loop (xs : List Int) (m : Nat) (v : Int) (f : Nat) (hx : m ≤ xs.length) (hb : m ≤ 4611686018427387904) : ∀ (d i n : Nat) , i + d = m → d < n →
    L f n (mkS 19 [(0, .ro (.ints .i64 xs) m 1), (1, .int .i64 v), (4, .int .i64 0), (7, .int .i64 m), (8, .int .i64 i)] []) = some (.int .i64 (fidx.sq (fun y => v == y) ((xs.take m).drop i) i), []) := by
  intro d
  induction d with
  | zero =>
    intro i n  hi hn 
    obtain ⟨n, rfl⟩ : ∃ k, n = k + 1 := ⟨n - 1, by omega⟩
    obtain rfl : i = m := by omega
    rw [round]
    have e : (xs.take i).drop i = [] := by simp
    rw [e]
    simp [fidx.sq]
  | succ d ih =>
    intro i n  hi hn 
    obtain ⟨n, rfl⟩ : ∃ k, n = k + 1 := ⟨n - 1, by omega⟩
    have h1 : i < m := by omega
    have h4 : (0 : Int) ≤ (i : Int) := Int.natCast_nonneg _
    have h5 : (i : Int) < (m : Int) := by omega
    have h2 : i < xs.length := by omega
    rw [round]
    rw [drop_take_cons hx h1]
    simp only [fidx.sq]
    have hr := ih (i + 1) n (by omega) (by omega)
    simp only [h4, h5, h2, gz_eq h2, decide_true, Bool.and_self, Bool.or_self, Bool.and_true, Bool.true_and, cond_true, Int.toNat_natCast, wrap_nat i (by omega)]
    rw [hr]
    cases (v == xs[i]) <;> rfl
theorem run : ∀ args v new, R args = some (true, v, new) → ∃ fuel, runFn Try.prog (orc []) hd Dr.std none fuel (bodyOf Try.f109) 19 [4] args [] = some (v, new) := by
  intro args v new h
  unfold R at h
  split at h
  · rename_i xs m v
    simp only [Option.some.injEq, Prod.mk.injEq, decide_eq_true_eq] at h
    obtain ⟨⟨h1, h2⟩, rfl, rfl⟩ := h
    refine ⟨m + 1, ?_⟩
    rw [start]
    have hl := loop xs m v (m + 1) h1 h2 m 0 (m + 1) (by omega) (by omega)
    simpa using hl
  · cases h
theorem ok : EntOk Try.prog ⟨109, R⟩ :=
  ent_okA mixed (A := (orc [])) (orc_ok (by simp)) Try.func109 (by kernel_rfl) (by kernel_rfl) (n := 19) (ts := [4]) (hd := hd) (dr := Dr.std) (cut := none) (by kernel_rfl) (by kernel_rfl) (by kernel_rfl) run
end slIndexQ

end Go.Proofs.Ytkoongajnnaeoaa.Ab
