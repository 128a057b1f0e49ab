/-
  Functions: claims.
-/
import Derived.Test.YtkoongajnnaeoaaFnB
namespace Go.Proofs.Ytkoongajnnaeoaa.Ab
open Go
set_option linter.unusedVariables false
set_option linter.unusedSimpArgs false
set_option maxRecDepth 100000

namespace sumOf
def sp (xs : List Int) : Int := xs.foldl (fun s x => IntKind.i64.wrap (s + x)) 0
def R : List AVal → Option (Bool × AVal × List Blk)
  | [.ro (.ints .i64 xs) m 1] => some (decide (m ≤ xs.length ∧ m ≤ 4611686018427387904), .int .i64 (sp (xs.take m)), [])
  | _ => none
def hd : Nat → Head := fun _ => ⟨[3, 6, 7, 8], none⟩
noncomputable def L (f n : Nat) (s : State) := loopAt Try.prog (orc []) hd Dr.std 0 f (bodyOf Try.f69) 0 [true, true, false, true] (retK Try.prog [2] 0 none) n s
theorem start (xs : List Int) (m : Nat)  (f : Nat) :
  runFn Try.prog (orc []) hd Dr.std none f (bodyOf Try.f69) 17 [2] [.ro (.ints .i64 xs) m 1] []
  = (L f f (mkS (17 : Nat) [((3 : Nat), AVal.int IntKind.i64 (0 : Int)), ((6 : Nat), AVal.ro (Cont.ints IntKind.i64 xs) m (1 : Nat)), ((7 : Nat), AVal.int IntKind.i64 (↑m : Int)), ((8 : Nat), AVal.int IntKind.i64 (0 : Int))] [])) := by kernel_rfl
theorem round (xs : List Int) (m i : Nat) (a : Int)  (f n : Nat) :
  L f (n + 1) (mkS 17 [(3, .int .i64 a), (6, .ro (.ints .i64 xs) m 1), (7, .int .i64 m), (8, .int .i64 i)] [])
  = (bif decide ((↑i : Int) < (↑m : Int)) then bif true && (decide ((0 : Int) ≤ (↑i : Int)) && decide ((↑i : Int) < (↑m : Int))) then bif decide ((↑i : Int).toNat < xs.length) then L f n (mkS (17 : Nat) [((3 : Nat), AVal.int IntKind.i64 (IntKind.i64.wrap (a + gz xs (↑i : Int).toNat))), ((6 : Nat), AVal.ro (Cont.ints IntKind.i64 xs) m (1 : Nat)), ((7 : Nat), AVal.int IntKind.i64 (↑m : Int)), ((8 : Nat), AVal.int IntKind.i64 (IntKind.i64.wrap ((↑i : Int) + (1 : Int))))] []) else none else none else some (AVal.int IntKind.i64 a, [])) := by kernel_rfl
theorem loop (xs : List Int) (m : Nat)  (f : Nat) (hx : m ≤ xs.length) (hb : m ≤ 4611686018427387904) : ∀ (d i n : Nat) (a : Int), i + d = m → d < n →
    L f n (mkS 17 [(3, .int .i64 a), (6, .ro (.ints .i64 xs) m 1), (7, .int .i64 m), (8, .int .i64 i)] []) = some (AVal.int .i64 (((xs.take m).drop i).foldl (fun s x => IntKind.i64.wrap (s + x)) a), []) := by
  intro d
  induction d with
  | zero =>
    intro i n a hj hn
    obtain ⟨n, rfl⟩ : ∃ k, n = k + 1 := ⟨n - 1, by omega⟩
    obtain rfl : i = m := by omega
    rw [round]
    simp
  | succ d ih =>
    intro i n a hj hn
    obtain ⟨n, rfl⟩ : ∃ k, n = k + 1 := ⟨n - 1, by omega⟩
    have h1 : i < m := by omega
    have h2 : i < xs.length := by omega
    rw [round]
    have h4 : (0 : Int) ≤ (i : Int) := Int.natCast_nonneg _
    have h5 : (i : Int) < (m : Int) := by omega
    simp only [h4, h5, h2, decide_true, Bool.and_self, Bool.or_self, cond_true, Int.toNat_natCast, wrap_nat i (by omega), gz_eq h2]
    rw [drop_take_cons hx h1, List.foldl_cons]
    exact ih (i + 1) n _ (by omega) (by omega)
theorem run : ∀ args v new, R args = some (true, v, new) → ∃ fuel, runFn Try.prog (orc []) hd Dr.std none fuel (bodyOf Try.f69) 17 [2] args [] = some (v, new) := by
  intro args v new h
  unfold R at h
  split at h
  · rename_i xs m
    simp only [Option.some.injEq, Prod.mk.injEq, decide_eq_true_eq] at h
    obtain ⟨⟨h1, h3⟩, rfl, rfl⟩ := h
    refine ⟨m + 1, ?_⟩
    rw [start]
    exact loop xs m (m + 1) h1 h3 m 0 (m + 1) 0 (by omega) (by omega)
  · cases h
theorem ok : EntOk Try.prog ⟨69, R⟩ :=
  ent_ok (es := []) mixed (by simp) Try.func69 (by kernel_rfl) (by kernel_rfl) (n := 17) (ts := [2]) (hd := hd) (dr := Dr.std) (cut := none) (by kernel_rfl) (by kernel_rfl) (by kernel_rfl) run
end sumOf






end Go.Proofs.Ytkoongajnnaeoaa.Ab
