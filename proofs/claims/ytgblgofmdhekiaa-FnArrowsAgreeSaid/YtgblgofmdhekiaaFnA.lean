/-
  Functions: lists of integers are copied, compared and looked through.
-/
import Derived.Test.YtgblgofmdhekiaaAbOrc
import Derived.Test.YtgblgofmdhekiaaChecked
import Derived.KernelRfl
namespace Go.Proofs.Ytgblgofmdhekiaa.Ab
open Go
set_option linter.unusedVariables false
set_option linter.unusedSimpArgs false
set_option maxRecDepth 100000

theorem mixed : Try.prog.follows .mixedOrders = true := by kernel_rfl
def hd0 : Nat → Head := fun _ => ⟨[], none⟩
abbrev Ents := List Ent
theorem wrap_nat (i : Nat) (h : i ≤ 4611686018427387904) : IntKind.i64.wrap ((i : Int) + 1) = ((i + 1 : Nat) : Int) := by
  have e : ((i : Int) + 1) = ((i + 1 : Nat) : Int) := by omega
  rw [e]; exact IntWalk.i64_in _ (by omega)
theorem drop_take_cons {α : Type} {xs : List α} {m i : Nat} (hm : m ≤ xs.length) (hi : i < m) : (xs.take m).drop i = xs[i] :: (xs.take m).drop (i + 1) := by
  rw [List.drop_eq_getElem_cons (by simp; omega)]
  simp
theorem gz_eq {xs : List Int} {i : Nat} (h : i < xs.length) : gz xs i = xs[i] := by simp [gz, h]

namespace within
def R : List AVal → Option (Bool × AVal × List Blk)
  | [.int .i64 n, .int .i64 lo, .int .i64 hi] => some (true, .bool (decide (lo ≤ n) && decide (n ≤ hi)), [])
  | _ => none
theorem go (n lo hi : Int) :
  runFn Try.prog (orc []) hd0 Dr.std none 0 (bodyOf Try.f40) 15 [6] [.int .i64 n, .int .i64 lo, .int .i64 hi] []
  = (bif decide (lo ≤ n) then some (AVal.bool (decide (n ≤ hi)), []) else some (AVal.bool false, [])) := by kernel_rfl
theorem run : ∀ args v new, R args = some (true, v, new) → ∃ fuel, runFn Try.prog (orc []) hd0 Dr.std none fuel (bodyOf Try.f40) 15 [6] args [] = some (v, new) := by
  intro args v new h
  unfold R at h
  split at h
  · rename_i n lo hi
    simp only [Option.some.injEq, Prod.mk.injEq, true_and] at h
    obtain ⟨rfl, rfl⟩ := h
    refine ⟨0, ?_⟩
    rw [go]
    cases decide (lo ≤ n) <;> rfl
  · cases h
theorem ok : EntOk Try.prog ⟨40, R⟩ :=
  ent_ok (es := []) mixed (by simp) Try.func40 (by kernel_rfl) (by kernel_rfl) (n := 15) (ts := [6]) (hd := hd0) (dr := Dr.std) (cut := none) (by kernel_rfl) (by kernel_rfl) (by kernel_rfl) run
end within




namespace areWithin
def R : List AVal → Option (Bool × AVal × List Blk)
  | [.ro (.ints .i64 xs) m 1, .int .i64 lo, .int .i64 hi] => some (decide (m ≤ xs.length ∧ m ≤ 4611686018427387904), .bool ((xs.take m).all fun x => decide (lo ≤ x) && decide (x ≤ hi)), [])
  | _ => none
def hd : Nat → Head := fun _ => ⟨[1, 2, 6, 9, 10, 11], none⟩
noncomputable def L (f n : Nat) (s : State) := loopAt Try.prog (orc [⟨40, within.R⟩]) hd Dr.std 0 f (bodyOf Try.f76) 0 [true, false, true] (retK Try.prog [6] 0 none) n s
theorem start (xs : List Int) (m : Nat) (lo hi : Int) (f : Nat) :
  runFn Try.prog (orc [⟨40, within.R⟩]) hd Dr.std none f (bodyOf Try.f76) 21 [6] [.ro (.ints .i64 xs) m 1, .int .i64 lo, .int .i64 hi] []
  = (L f f (mkS (21 : Nat) [((1 : Nat), AVal.int IntKind.i64 lo), ((2 : Nat), AVal.int IntKind.i64 hi), ((6 : Nat), AVal.bool false), ((9 : Nat), AVal.ro (Cont.ints IntKind.i64 xs) m (1 : Nat)), ((10 : Nat), AVal.int IntKind.i64 (↑m : Int)), ((11 : Nat), AVal.int IntKind.i64 (0 : Int))] [])) := by kernel_rfl
theorem round (xs : List Int) (m i : Nat) (lo hi : Int) (f n : Nat) :
  L f (n + 1) (mkS 21 [(1, .int .i64 lo), (2, .int .i64 hi), (6, .bool false), (9, .ro (.ints .i64 xs) m 1), (10, .int .i64 m), (11, .int .i64 i)] [])
  = (bif decide ((↑i : Int) < (↑m : Int)) then bif true && (decide ((0 : Int) ≤ (↑i : Int)) && decide ((↑i : Int) < (↑m : Int))) then bif decide ((↑i : Int).toNat < xs.length) then bif true && (true && (true && (true && true)) || true && true) then bif !(decide (lo ≤ gz xs (↑i : Int).toNat) && decide (gz xs (↑i : Int).toNat ≤ hi)) then some (AVal.bool false, []) else L f n (mkS (21 : Nat) [((1 : Nat), AVal.int IntKind.i64 lo), ((2 : Nat), AVal.int IntKind.i64 hi), ((6 : Nat), AVal.bool false), ((9 : Nat), AVal.ro (Cont.ints IntKind.i64 xs) m (1 : Nat)), ((10 : Nat), AVal.int IntKind.i64 (↑m : Int)), ((11 : Nat), AVal.int IntKind.i64 (IntKind.i64.wrap ((↑i : Int) + (1 : Int))))] []) else none else none else none else some (AVal.bool true, [])) := by kernel_rfl
theorem loop (xs : List Int) (m : Nat) (lo hi : Int) (f : Nat) (hx : m ≤ xs.length) (hb : m ≤ 4611686018427387904) : ∀ (d i n : Nat), i + d = m → d < n →
    L f n (mkS 21 [(1, .int .i64 lo), (2, .int .i64 hi), (6, .bool false), (9, .ro (.ints .i64 xs) m 1), (10, .int .i64 m), (11, .int .i64 i)] []) = some (.bool (((xs.take m).drop i).all fun x => decide (lo ≤ x) && decide (x ≤ hi)), []) := by
  intro d
  induction d with
  | zero =>
    intro i n hj hn
    obtain ⟨n, rfl⟩ : ∃ k, n = k + 1 := ⟨n - 1, by omega⟩
    obtain rfl : i = m := by omega
    rw [round]
    simp
  | succ d ih =>
    intro i n hj hn
    obtain ⟨n, rfl⟩ : ∃ k, n = k + 1 := ⟨n - 1, by omega⟩
    have h1 : i < m := by omega
    have h2 : i < xs.length := by omega
    rw [round]
    have h4 : (0 : Int) ≤ (i : Int) := Int.natCast_nonneg _
    have h5 : (i : Int) < (m : Int) := by omega
    simp only [h4, h5, h2, decide_true, Bool.and_self, Bool.or_self, cond_true, Int.toNat_natCast, wrap_nat i (by omega), gz_eq h2]
    rw [drop_take_cons hx h1, List.all_cons]
    generalize (decide (lo ≤ xs[i]) && decide (xs[i] ≤ hi)) = b
    cases b
    · rfl
    · simp only [Bool.not_true, cond_false, Bool.true_and]
      exact ih (i + 1) n (by omega) (by omega)
theorem run : ∀ args v new, R args = some (true, v, new) → ∃ fuel, runFn Try.prog (orc [⟨40, within.R⟩]) hd Dr.std none fuel (bodyOf Try.f76) 21 [6] args [] = some (v, new) := by
  intro args v new h
  unfold R at h
  split at h
  · rename_i xs m lo hi
    simp only [Option.some.injEq, Prod.mk.injEq, decide_eq_true_eq] at h
    obtain ⟨⟨h1, h3⟩, rfl, rfl⟩ := h
    refine ⟨m + 1, ?_⟩
    rw [start]
    exact loop xs m lo hi (m + 1) h1 h3 m 0 (m + 1) (by omega) (by omega)
  · cases h
theorem ok : EntOk Try.prog ⟨76, R⟩ :=
  ent_ok (es := [⟨40, within.R⟩]) mixed (by simp only [List.mem_cons, List.not_mem_nil, or_false, forall_eq_or_imp, forall_eq]; exact within.ok) Try.func76 (by kernel_rfl) (by kernel_rfl) (n := 21) (ts := [6]) (hd := hd) (dr := Dr.std) (cut := none) (by kernel_rfl) (by kernel_rfl) (by kernel_rfl) run
end areWithin

end Go.Proofs.Ytgblgofmdhekiaa.Ab
