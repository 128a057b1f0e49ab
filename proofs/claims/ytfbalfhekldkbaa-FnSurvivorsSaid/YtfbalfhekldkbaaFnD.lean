/-
  Functions: crowds are copied and compared.
-/
import Derived.Test.YtfbalfhekldkbaaFnB
namespace Go.Proofs.Ytfbalfhekldkbaa.Ab
open Go
set_option linter.unusedVariables false
set_option linter.unusedSimpArgs false
set_option maxRecDepth 100000


namespace slEqual
def R : List AVal → Option (Bool × AVal × List Blk)
  | [.ro (.ints .i64 xs) m 1, .ro (.ints .i64 ys) k 1] => some (decide (m ≤ xs.length ∧ k ≤ ys.length ∧ m ≤ 4611686018427387904), .bool (decide (xs.take m = ys.take k)), [])
  | _ => none
def hd : Nat → Head := fun _ => ⟨[0, 1, 4, 12, 13], none⟩
noncomputable def L (f n : Nat) (s : State) := loopAt Try.prog (orc []) hd Dr.std 0 f (bodyOf Try.f37) 0 [true, true, false, true] (retK Try.prog [4] 0 none) n s
theorem start (xs ys : List Int) (m k f : Nat) :
  runFn Try.prog (orc []) hd Dr.std none f (bodyOf Try.f37) 26 [4] [.ro (.ints .i64 xs) m 1, .ro (.ints .i64 ys) k 1] []
  = (bif (↑m : Int) != (↑k : Int) then some (AVal.bool false, []) else L f f (mkS (26 : Nat) [((0 : Nat), AVal.ro (Cont.ints IntKind.i64 xs) m (1 : Nat)), ((1 : Nat), AVal.ro (Cont.ints IntKind.i64 ys) k (1 : Nat)), ((4 : Nat), AVal.bool false), ((12 : Nat), AVal.int IntKind.i64 (↑m : Int)), ((13 : Nat), AVal.int IntKind.i64 (0 : Int))] [])) := by kernel_rfl
theorem round (xs ys : List Int) (m k i : Nat) (f n : Nat) :
  L f (n + 1) (mkS 26 [(0, .ro (.ints .i64 xs) m 1), (1, .ro (.ints .i64 ys) k 1), (4, .bool false), (12, .int .i64 m), (13, .int .i64 i)] [])
  = (bif decide ((↑i : Int) < (↑m : Int)) then bif true && (decide ((0 : Int) ≤ (↑i : Int)) && decide ((↑i : Int) < (↑m : Int))) then bif decide ((↑i : Int).toNat < xs.length) then bif true && (decide ((0 : Int) ≤ (↑i : Int)) && decide ((↑i : Int) < (↑k : Int))) then bif decide ((↑i : Int).toNat < ys.length) then bif gz xs (↑i : Int).toNat != gz ys (↑i : Int).toNat then some (AVal.bool false, []) else L f n (mkS (26 : Nat) [((0 : Nat), AVal.ro (Cont.ints IntKind.i64 xs) m (1 : Nat)), ((1 : Nat), AVal.ro (Cont.ints IntKind.i64 ys) k (1 : Nat)), ((4 : Nat), AVal.bool false), ((12 : Nat), AVal.int IntKind.i64 (↑m : Int)), ((13 : Nat), AVal.int IntKind.i64 (IntKind.i64.wrap ((↑i : Int) + (1 : Int))))] []) else none else none else none else none else some (AVal.bool true, [])) := by kernel_rfl
theorem loop (xs ys : List Int) (m f : Nat) (hx : m ≤ xs.length) (hy : m ≤ ys.length) (hb : m ≤ 4611686018427387904) : ∀ (d i n : Nat), i + d = m → d < n →
    L f n (mkS 26 [(0, .ro (.ints .i64 xs) m 1), (1, .ro (.ints .i64 ys) m 1), (4, .bool false), (12, .int .i64 m), (13, .int .i64 i)] []) = some (.bool (decide ((xs.take m).drop i = (ys.take m).drop i)), []) := by
  intro d
  induction d with
  | zero =>
    intro i n hi hn
    obtain ⟨n, rfl⟩ : ∃ k, n = k + 1 := ⟨n - 1, by omega⟩
    obtain rfl : i = m := by omega
    rw [round]
    simp
  | succ d ih =>
    intro i n hi hn
    obtain ⟨n, rfl⟩ : ∃ k, n = k + 1 := ⟨n - 1, by omega⟩
    have h1 : i < m := by omega
    have h2 : i < xs.length := by omega
    have h3 : i < ys.length := by omega
    rw [round]
    have h4 : (0 : Int) ≤ (i : Int) := Int.natCast_nonneg _
    have h5 : (i : Int) < (m : Int) := by omega
    simp only [h4, h5, h2, h3, decide_true, Bool.and_self, cond_true, Int.toNat_natCast, wrap_nat i (by omega), gz_eq h2, gz_eq h3]
    rw [drop_take_cons hx h1, drop_take_cons hy h1]
    by_cases hc : xs[i] = ys[i]
    · have : (xs[i] != ys[i]) = false := by simp [hc]
      simp only [this, cond_false]
      rw [ih (i + 1) n (by omega) (by omega)]
      simp [hc]
    · have : (xs[i] != ys[i]) = true := by simp [hc]
      simp [this, hc]
theorem run : ∀ args v new, R args = some (true, v, new) → ∃ fuel, runFn Try.prog (orc []) hd Dr.std none fuel (bodyOf Try.f37) 26 [4] args [] = some (v, new) := by
  intro args v new h
  unfold R at h
  split at h
  · rename_i xs m ys k
    simp only [Option.some.injEq, Prod.mk.injEq, decide_eq_true_eq] at h
    obtain ⟨⟨h1, h2, h3⟩, rfl, rfl⟩ := h
    refine ⟨m + 1, ?_⟩
    rw [start]
    by_cases hmk : m = k
    · subst hmk
      simp only [bne_self_eq_false, cond_false]
      simpa using loop xs ys m (m + 1) h1 h2 h3 m 0 (m + 1) (by omega) (by omega)
    · have c : ((m : Int) != (k : Int)) = true := by simp only [bne_iff_ne, ne_eq, Int.natCast_inj]; exact hmk
      have c2 : ¬ xs.take m = ys.take k := fun h => by
        have := congrArg List.length h
        simp only [List.length_take] at this; omega
      simp [c, c2]
  · cases h
theorem ok : EntOk Try.prog ⟨37, R⟩ :=
  ent_ok (es := []) mixed (by simp) Try.func37 (by kernel_rfl) (by kernel_rfl) (n := 26) (ts := [4]) (hd := hd) (dr := Dr.std) (cut := none) (by kernel_rfl) (by kernel_rfl) (by kernel_rfl) run
end slEqual








end Go.Proofs.Ytfbalfhekldkbaa.Ab
