/-
  Functions: ballots.
-/
import Derived.Test.YtkoongajnnaeoaaFnP
namespace Go.Proofs.Ytkoongajnnaeoaa.Ab
open Go
set_option linter.unusedVariables false
set_option linter.unusedSimpArgs false
set_option maxRecDepth 100000

def has.sp (v x : Int) : Bool := x == v
/-- All within and none twice, from a place on. -/
def uniq.sq (n : Int) : List Int → List Int → Bool
  | _, [] => true
  | pre, x :: r => ((decide (0 ≤ x) && decide (x ≤ n - 1)) && !(pre.any (has.sp x))) && uniq.sq n (pre ++ [x]) r
theorem take_snoc {xs : List Int} {i : Nat} (h : i < xs.length) : xs.take i ++ [xs[i]] = xs.take (i + 1) := by
  rw [List.take_add_one, List.getElem?_eq_getElem h]; rfl
/-- A list of all from 0 on, in an order. -/
def order.sp (n : Int) (xs : List Int) : Bool := uniq.sq n [] xs && decide ((xs.length : Int) = n)

namespace l00Has
def R : List AVal → Option (Bool × AVal × List Blk)
  | [.ro (.ints .i64 xs) m 1, .int .i64 v] => some (decide (m ≤ xs.length ∧ m ≤ 4611686018427387904), .bool ((xs.take m).any (has.sp v)), [])
  | _ => none
def hd : Nat → Head := fun _ => ⟨[0, 1, 4, 5], none⟩
noncomputable def L (f n : Nat) (s : State) := loopAt Try.prog (orc []) hd Dr.std 0 f (bodyOf Try.f149) 0 [true, false, true] (retK Try.prog [4] 0 none) n s
theorem start (xs : List Int) (m : Nat) (v : Int) (f : Nat) :
  runFn Try.prog (orc []) hd Dr.std none f (bodyOf Try.f149) 18 [4] [.ro (.ints .i64 xs) m 1, .int .i64 v] []
  = (L f f (mkS (18 : Nat) [((0 : Nat), AVal.ro (Cont.ints IntKind.i64 xs) m (1 : Nat)), ((1 : Nat), AVal.int IntKind.i64 v), ((4 : Nat), AVal.bool false), ((5 : Nat), AVal.int IntKind.i64 (0 : Int))] [])) := by kernel_rfl
theorem round (xs : List Int) (m i : Nat) (v : Int) (f n : Nat) :
  L f (n + 1) (mkS 18 [(0, .ro (.ints .i64 xs) m 1), (1, .int .i64 v), (4, .bool false), (5, .int .i64 i)] [])
  = (bif decide ((↑i : Int) < (↑m : Int)) then bif true && (decide ((0 : Int) ≤ (↑i : Int)) && decide ((↑i : Int) < (↑m : Int))) then bif decide ((↑i : Int).toNat < xs.length) then bif gz xs (↑i : Int).toNat == v then some (AVal.bool true, []) else L f n (mkS (18 : Nat) [((0 : Nat), AVal.ro (Cont.ints IntKind.i64 xs) m (1 : Nat)), ((1 : Nat), AVal.int IntKind.i64 v), ((4 : Nat), AVal.bool false), ((5 : Nat), AVal.int IntKind.i64 (IntKind.i64.wrap ((↑i : Int) + (1 : Int))))] []) else none else none else some (AVal.bool false, [])) := by kernel_rfl
theorem loop (xs : List Int) (m : Nat) (v : Int) (f : Nat) (hx : m ≤ xs.length) (hb : m ≤ 4611686018427387904) : ∀ (d i n : Nat) , i + d = m → d < n →
    L f n (mkS 18 [(0, .ro (.ints .i64 xs) m 1), (1, .int .i64 v), (4, .bool false), (5, .int .i64 i)] []) = some (.bool (((xs.take m).drop i).any (has.sp v)), []) := by
  intro d
  induction d with
  | zero =>
    intro i n  hi hn 
    obtain ⟨n, rfl⟩ : ∃ k, n = k + 1 := ⟨n - 1, by omega⟩
    obtain rfl : i = m := by omega
    rw [round]
    simp
  | succ d ih =>
    intro i n  hi hn 
    obtain ⟨n, rfl⟩ : ∃ k, n = k + 1 := ⟨n - 1, by omega⟩
    have h1 : i < m := by omega
    have h4 : (0 : Int) ≤ (i : Int) := Int.natCast_nonneg _
    have h5 : (i : Int) < (m : Int) := by omega
    have h2 : i < xs.length := by omega
    rw [round]
    rw [drop_take_cons hx h1, List.any_cons]
    have hr := ih (i + 1) n (by omega) (by omega)
    have hh : (xs[i] == v) = has.sp v xs[i] := rfl
    simp only [h4, h5, h2, gz_eq h2, hh, decide_true, Bool.and_self, Bool.or_self, Bool.and_true, Bool.true_and, cond_true, Int.toNat_natCast, wrap_nat i (by omega)]
    cases has.sp v xs[i]
    · simpa using hr
    · rfl
theorem run : ∀ args v new, R args = some (true, v, new) → ∃ fuel, runFn Try.prog (orc []) hd Dr.std none fuel (bodyOf Try.f149) 18 [4] args [] = some (v, new) := by
  intro args v new h
  unfold R at h
  split at h
  · rename_i xs m v
    simp only [Option.some.injEq, Prod.mk.injEq, decide_eq_true_eq] at h
    obtain ⟨⟨h1, h2⟩, rfl, rfl⟩ := h
    refine ⟨m + 1, ?_⟩
    rw [start]
    have hl := loop xs m v (m + 1) h1 h2 m 0 (m + 1) (by omega) (by omega)
    simpa using hl
  · cases h
theorem ok : EntOk Try.prog ⟨149, R⟩ :=
  ent_okA mixed (A := (orc [])) (orc_ok (by simp)) Try.func149 (by kernel_rfl) (by kernel_rfl) (n := 18) (ts := [4]) (hd := hd) (dr := Dr.std) (cut := none) (by kernel_rfl) (by kernel_rfl) (by kernel_rfl) run
end l00Has


namespace isAll
def R : List AVal → Option (Bool × AVal × List Blk)
  | [.ro (.ints .i64 xs) m 1] => some (decide (m ≤ xs.length ∧ m ≤ 1000000000), .bool (uniq.sq (m : Int) [] (xs.take m)), [])
  | _ => none
def hd : Nat → Head := fun _ => ⟨[0, 2, 3, 9, 10, 11], some 1⟩
noncomputable def L (f n : Nat) (s : State) := loopAt Try.prog (orc [⟨76, within.R⟩]) hd Dr.std 0 f (bodyOf Try.f102) 0 [true, true, false, true] (retK Try.prog [2] 0 (some 0)) n s
theorem start (xs : List Int) (m : Nat) (f : Nat) :
  runFn Try.prog (orc [⟨76, within.R⟩]) hd Dr.std (some 0) f (bodyOf Try.f102) 31 [2] [.ro (.ints .i64 xs) m 1] []
  = (bif (1 : Nat) == (1 : Nat) && ((↑m : Int) == (↑m : Int) && (decide ((0 : Int) ≤ (↑m : Int)) && (decide ((↑m : Int) * (1 : Int) ≤ (140737488355328 : Int)) && decide ((↑m : Int) ≤ (4611686018427387904 : Int))))) then L f f (mkS (31 : Nat) [((0 : Nat), AVal.ro (Cont.ints IntKind.i64 xs) m (1 : Nat)), ((2 : Nat), AVal.bool false), ((3 : Nat), AVal.own (0 : Nat) (0 : Nat) (↑m : Int).toNat (0 : Nat) (1 : Nat)), ((9 : Nat), AVal.ro (Cont.ints IntKind.i64 xs) m (1 : Nat)), ((10 : Nat), AVal.int IntKind.i64 (↑m : Int)), ((11 : Nat), AVal.int IntKind.i64 (0 : Int))] [{ c := BC.typ (Cont.bools (List.replicate (↑m : Int).toNat false)), ver := (0 : Nat) }]) else none) := by kernel_rfl
theorem round (xs : List Int) (m i : Nat) (bs : List Bool) (f n : Nat) :
  L f (n + 1) (mkS 31 [(0, .ro (.ints .i64 xs) m 1), (2, .bool false), (3, .own 0 0 m 0 1), (9, .ro (.ints .i64 xs) m 1), (10, .int .i64 m), (11, .int .i64 i)] [⟨.typ (.bools bs), 0⟩])
  = (bif decide ((↑i : Int) < (↑m : Int)) then bif true && (decide ((0 : Int) ≤ (↑i : Int)) && decide ((↑i : Int) < (↑m : Int))) then bif decide ((↑i : Int).toNat < xs.length) then bif true && (true && (true && (true && true)) || true && true) then bif !(decide ((0 : Int) ≤ gz xs (↑i : Int).toNat) && decide (gz xs (↑i : Int).toNat ≤ IntKind.i64.wrap ((↑m : Int) - (1 : Int)))) then some (AVal.bool false, []) else bif true && (decide ((0 : Int) ≤ gz xs (↑i : Int).toNat) && decide (gz xs (↑i : Int).toNat < (↑m : Int))) then bif true && decide ((gz xs (↑i : Int).toNat).toNat < bs.length) then bif gb bs (gz xs (↑i : Int).toNat).toNat then some (AVal.bool false, []) else bif true && (decide ((0 : Int) ≤ gz xs (↑i : Int).toNat) && decide (gz xs (↑i : Int).toNat < (↑m : Int))) then bif true && (true && (decide ((gz xs (↑i : Int).toNat).toNat < bs.length) && true)) then L f n (mkS (31 : Nat) [((0 : Nat), AVal.ro (Cont.ints IntKind.i64 xs) m (1 : Nat)), ((2 : Nat), AVal.bool false), ((3 : Nat), AVal.own (0 : Nat) (0 : Nat) m (0 : Nat) (1 : Nat)), ((9 : Nat), AVal.ro (Cont.ints IntKind.i64 xs) m (1 : Nat)), ((10 : Nat), AVal.int IntKind.i64 (↑m : Int)), ((11 : Nat), AVal.int IntKind.i64 (IntKind.i64.wrap ((↑i : Int) + (1 : Int))))] [{ c := BC.typ (Cont.bools (bs.set (gz xs (↑i : Int).toNat).toNat true)), ver := (0 : Nat) }]) else none else none else none else none else none else none else none else some (AVal.bool true, [])) := by kernel_rfl
theorem gb_eq {bs : List Bool} {i : Nat} (h : i < bs.length) : gb bs i = bs[i] := by simp [gb, h]
theorem loop (xs : List Int) (m : Nat) (f : Nat) (hx : m ≤ xs.length) (hb : m ≤ 4611686018427387904) : ∀ (d i n : Nat) (bs : List Bool), i + d = m → d < n → bs.length = m → (∀ (j : Nat) (hj : j < bs.length), bs[j] = (xs.take i).any (has.sp (j : Int))) →
    L f n (mkS 31 [(0, .ro (.ints .i64 xs) m 1), (2, .bool false), (3, .own 0 0 m 0 1), (9, .ro (.ints .i64 xs) m 1), (10, .int .i64 m), (11, .int .i64 i)] [⟨.typ (.bools bs), 0⟩]) = some (.bool (uniq.sq (m : Int) (xs.take i) ((xs.take m).drop i)), []) := by
  intro d
  induction d with
  | zero =>
    intro i n bs hi hn hl hs
    obtain ⟨n, rfl⟩ : ∃ k, n = k + 1 := ⟨n - 1, by omega⟩
    obtain rfl : i = m := by omega
    rw [round]
    have e : (xs.take i).drop i = [] := by simp
    rw [e]
    simp [uniq.sq]
  | succ d ih =>
    intro i n bs hi hn hl hs
    obtain ⟨n, rfl⟩ : ∃ k, n = k + 1 := ⟨n - 1, by omega⟩
    have h1 : i < m := by omega
    have h4 : (0 : Int) ≤ (i : Int) := Int.natCast_nonneg _
    have h5 : (i : Int) < (m : Int) := by omega
    have h2 : i < xs.length := by omega
    rw [round]
    rw [drop_take_cons hx h1]
    simp only [uniq.sq]
    rw [take_snoc h2]
    have w : IntKind.i64.wrap ((m : Int) - 1) = (m : Int) - 1 := IntWalk.i64_in _ (by omega)
    by_cases c1 : 0 ≤ xs[i] ∧ xs[i] ≤ (m : Int) - 1
    · obtain ⟨q, hq⟩ : ∃ q : Nat, xs[i] = q := ⟨xs[i].toNat, by omega⟩
      have l1 : q < bs.length := by omega
      have d1 : (0 : Int) ≤ (q : Int) := Int.natCast_nonneg _
      have d2 : (q : Int) < (m : Int) := by omega
      have d3 : (q : Int) ≤ (m : Int) - 1 := by omega
      have hsq := hs q l1
      have hr := ih (i + 1) n (bs.set q true) (by omega) (by omega) (by simpa using hl) (fun j hj => by
        rw [List.getElem_set, ← take_snoc h2, List.any_append, hs j (by simpa using hj)]
        simp only [List.any_cons, List.any_nil, Bool.or_false, has.sp, hq]
        by_cases cj : q = j
        · subst cj; simp
        · have : ((q : Int) == (j : Int)) = false := by simp only [beq_eq_false_iff_ne, ne_eq, Int.natCast_inj]; exact cj
          simp [cj, this])
      simp only [h4, h5, h2, w, gz_eq h2, hq, d1, d2, d3, l1, gb_eq l1, hsq, decide_true, Bool.and_self, Bool.or_self, Bool.and_true, Bool.true_and, Bool.or_true, Bool.not_true, cond_true, cond_false, Int.toNat_natCast, wrap_nat i (by omega)]
      generalize (xs.take i).any (has.sp (q : Int)) = b2
      cases b2
      · simp only [cond_false, Bool.not_false, Bool.true_and]
        exact hr
      · simp
    · have c2 : (decide (0 ≤ xs[i]) && decide (xs[i] ≤ (m : Int) - 1)) = false := by
        simp only [Bool.and_eq_false_iff, decide_eq_false_iff_not]; omega
      simp only [h4, h5, h2, w, gz_eq h2, c2, decide_true, Bool.and_self, Bool.or_self, Bool.and_true, Bool.true_and, Bool.or_true, Bool.not_false, Bool.false_and, cond_true, cond_false, Int.toNat_natCast]
theorem run : ∀ args v new, R args = some (true, v, new) → ∃ fuel, runFn Try.prog (orc [⟨76, within.R⟩]) hd Dr.std (some 0) fuel (bodyOf Try.f102) 31 [2] args [] = some (v, new) := by
  intro args v new h
  unfold R at h
  split at h
  · rename_i xs m
    simp only [Option.some.injEq, Prod.mk.injEq, decide_eq_true_eq] at h
    obtain ⟨⟨h1, h2⟩, rfl, rfl⟩ := h
    refine ⟨m + 1, ?_⟩
    rw [start]
    have c1 : (0 : Int) ≤ (m : Int) := Int.natCast_nonneg _
    have c2 : (m : Int) * 1 ≤ 140737488355328 := by omega
    have c2' : (m : Int) ≤ 140737488355328 := by omega
    have c3 : (m : Int) ≤ 4611686018427387904 := by omega
    have hl := loop xs m (m + 1) h1 (by omega) m 0 (m + 1) (List.replicate m false) (by omega) (by omega) (by simp) (fun j hj => by simp)
    simp [c1, c2, c2', c3]
    exact hl
  · cases h
theorem ok : EntOk Try.prog ⟨102, R⟩ :=
  ent_okA mixed (A := (orc [⟨76, within.R⟩])) (orc_ok (by simp only [List.mem_cons, List.not_mem_nil, or_false, forall_eq_or_imp, forall_eq]; exact within.ok)) Try.func102 (by kernel_rfl) (by kernel_rfl) (n := 31) (ts := [2]) (hd := hd) (dr := Dr.std) (cut := (some 0)) (by kernel_rfl) (by kernel_rfl) (by kernel_rfl) run
end isAll

def ballots.sp (xs : List (List Int)) : Bool := ((decide (1 ≤ xs.length) && decide (xs.length ≤ 32)) && (decide (1 ≤ (gr xs 0).length) && decide ((gr xs 0).length ≤ 12))) && xs.all (order.sp ((gr xs 0).length : Int))


def clo.sp (n : Nat) (b : List Int) : Bool := ((b.length : Int) != (n : Int)) || !uniq.sq (b.length : Int) [] b
theorem clo_any (n : Nat) (l : List (List Int)) : (!l.any (clo.sp n)) = l.all (order.sp (n : Int)) := by
  induction l with
  | nil => rfl
  | cons b r ih =>
    rw [List.any_cons, List.all_cons, ← ih]
    have : clo.sp n b = !order.sp (n : Int) b := by
      unfold clo.sp order.sp
      by_cases c : (b.length : Int) = (n : Int)
      · simp only [c, bne_self_eq_false, Bool.false_or, decide_true, Bool.and_true]
      · have c' : ((b.length : Int) != (n : Int)) = true := by simpa using c
        simp [c', c]
    rw [this]
    cases order.sp (n : Int) b <;> simp






end Go.Proofs.Ytkoongajnnaeoaa.Ab
