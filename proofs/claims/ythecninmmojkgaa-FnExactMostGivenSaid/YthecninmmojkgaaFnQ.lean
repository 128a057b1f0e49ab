/-
  Functions: ballots.
-/
import Derived.Test.YthecninmmojkgaaFnP
namespace Go.Proofs.Ythecninmmojkgaa.Ab
open Go
set_option linter.unusedVariables false
set_option linter.unusedSimpArgs false
set_option maxRecDepth 100000

def has.sp (v x : Int) : Bool := x == v
/-- All within and none twice, from a place on. -/
def uniq.sq (n : Int) : List Int → List Int → Bool
  | _, [] => true
  | pre, x :: r => ((decide (0 ≤ x) && decide (x ≤ n - 1)) && !(pre.any (has.sp x))) && uniq.sq n (pre ++ [x]) r
theorem take_snoc {xs : List Int} {i : Nat} (h : i < xs.length) : xs.take i ++ [xs[i]] = xs.take (i + 1) := by
  rw [List.take_add_one, List.getElem?_eq_getElem h]; rfl
/-- A list of all from 0 on, in an order. -/
def order.sp (n : Int) (xs : List Int) : Bool := uniq.sq n [] xs && decide ((xs.length : Int) = n)

namespace l00Has
def R : List AVal → Option (Bool × AVal × List Blk)
  | [.ro (.ints .i64 xs) m 1, .int .i64 v] => some (decide (m ≤ xs.length ∧ m ≤ 4611686018427387904), .bool ((xs.take m).any (has.sp v)), [])
  | _ => none
def hd : Nat → Head := fun _ => ⟨[0, 1, 4, 5], none⟩
noncomputable def L (f n : Nat) (s : State) := loopAt Try.prog (orc []) hd Dr.std 0 f (bodyOf Try.f72) 0 [true, false, true] (retK Try.prog [4] 0 none) n s
theorem start (xs : List Int) (m : Nat) (v : Int) (f : Nat) :
  runFn Try.prog (orc []) hd Dr.std none f (bodyOf Try.f72) 18 [4] [.ro (.ints .i64 xs) m 1, .int .i64 v] []
  = (L f f (mkS (18 : Nat) [((0 : Nat), AVal.ro (Cont.ints IntKind.i64 xs) m (1 : Nat)), ((1 : Nat), AVal.int IntKind.i64 v), ((4 : Nat), AVal.bool false), ((5 : Nat), AVal.int IntKind.i64 (0 : Int))] [])) := by kernel_rfl
theorem round (xs : List Int) (m i : Nat) (v : Int) (f n : Nat) :
  L f (n + 1) (mkS 18 [(0, .ro (.ints .i64 xs) m 1), (1, .int .i64 v), (4, .bool false), (5, .int .i64 i)] [])
  = (bif decide ((↑i : Int) < (↑m : Int)) then bif true && (decide ((0 : Int) ≤ (↑i : Int)) && decide ((↑i : Int) < (↑m : Int))) then bif decide ((↑i : Int).toNat < xs.length) then bif gz xs (↑i : Int).toNat == v then some (AVal.bool true, []) else L f n (mkS (18 : Nat) [((0 : Nat), AVal.ro (Cont.ints IntKind.i64 xs) m (1 : Nat)), ((1 : Nat), AVal.int IntKind.i64 v), ((4 : Nat), AVal.bool false), ((5 : Nat), AVal.int IntKind.i64 (IntKind.i64.wrap ((↑i : Int) + (1 : Int))))] []) else none else none else some (AVal.bool false, [])) := by kernel_rfl
theorem loop (xs : List Int) (m : Nat) (v : Int) (f : Nat) (hx : m ≤ xs.length) (hb : m ≤ 4611686018427387904) : ∀ (d i n : Nat) , i + d = m → d < n →
    L f n (mkS 18 [(0, .ro (.ints .i64 xs) m 1), (1, .int .i64 v), (4, .bool false), (5, .int .i64 i)] []) = some (.bool (((xs.take m).drop i).any (has.sp v)), []) := by
  intro d
  induction d with
  | zero =>
    intro i n  hi hn 
    obtain ⟨n, rfl⟩ : ∃ k, n = k + 1 := ⟨n - 1, by omega⟩
    obtain rfl : i = m := by omega
    rw [round]
    simp
  | succ d ih =>
    intro i n  hi hn 
    obtain ⟨n, rfl⟩ : ∃ k, n = k + 1 := ⟨n - 1, by omega⟩
    have h1 : i < m := by omega
    have h4 : (0 : Int) ≤ (i : Int) := Int.natCast_nonneg _
    have h5 : (i : Int) < (m : Int) := by omega
    have h2 : i < xs.length := by omega
    rw [round]
    rw [drop_take_cons hx h1, List.any_cons]
    have hr := ih (i + 1) n (by omega) (by omega)
    have hh : (xs[i] == v) = has.sp v xs[i] := rfl
    simp only [h4, h5, h2, gz_eq h2, hh, decide_true, Bool.and_self, Bool.or_self, Bool.and_true, Bool.true_and, cond_true, Int.toNat_natCast, wrap_nat i (by omega)]
    cases has.sp v xs[i]
    · simpa using hr
    · rfl
theorem run : ∀ args v new, R args = some (true, v, new) → ∃ fuel, runFn Try.prog (orc []) hd Dr.std none fuel (bodyOf Try.f72) 18 [4] args [] = some (v, new) := by
  intro args v new h
  unfold R at h
  split at h
  · rename_i xs m v
    simp only [Option.some.injEq, Prod.mk.injEq, decide_eq_true_eq] at h
    obtain ⟨⟨h1, h2⟩, rfl, rfl⟩ := h
    refine ⟨m + 1, ?_⟩
    rw [start]
    have hl := loop xs m v (m + 1) h1 h2 m 0 (m + 1) (by omega) (by omega)
    simpa using hl
  · cases h
theorem ok : EntOk Try.prog ⟨72, R⟩ :=
  ent_okA mixed (A := (orc [])) (orc_ok (by simp)) Try.func72 (by kernel_rfl) (by kernel_rfl) (n := 18) (ts := [4]) (hd := hd) (dr := Dr.std) (cut := none) (by kernel_rfl) (by kernel_rfl) (by kernel_rfl) run
end l00Has



def ballots.sp (xs : List (List Int)) : Bool := ((decide (1 ≤ xs.length) && decide (xs.length ≤ 32)) && (decide (1 ≤ (gr xs 0).length) && decide ((gr xs 0).length ≤ 12))) && xs.all (order.sp ((gr xs 0).length : Int))


def clo.sp (n : Nat) (b : List Int) : Bool := ((b.length : Int) != (n : Int)) || !uniq.sq (b.length : Int) [] b
theorem clo_any (n : Nat) (l : List (List Int)) : (!l.any (clo.sp n)) = l.all (order.sp (n : Int)) := by
  induction l with
  | nil => rfl
  | cons b r ih =>
    rw [List.any_cons, List.all_cons, ← ih]
    have : clo.sp n b = !order.sp (n : Int) b := by
      unfold clo.sp order.sp
      by_cases c : (b.length : Int) = (n : Int)
      · simp only [c, bne_self_eq_false, Bool.false_or, decide_true, Bool.and_true]
      · have c' : ((b.length : Int) != (n : Int)) = true := by simpa using c
        simp [c', c]
    rw [this]
    cases order.sp (n : Int) b <;> simp






end Go.Proofs.Ythecninmmojkgaa.Ab
