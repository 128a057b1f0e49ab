/-
  Functions: lists of integers are copied, compared and looked through.
-/
import Derived.Test.YthecninmmojkgaaAbOrc
import Derived.Test.YthecninmmojkgaaChecked
import Derived.KernelRfl
namespace Go.Proofs.Ythecninmmojkgaa.Ab
open Go
set_option linter.unusedVariables false
set_option linter.unusedSimpArgs false
set_option maxRecDepth 100000

theorem mixed : Try.prog.follows .mixedOrders = true := by kernel_rfl
def hd0 : Nat → Head := fun _ => ⟨[], none⟩
abbrev Ents := List Ent
theorem wrap_nat (i : Nat) (h : i ≤ 4611686018427387904) : IntKind.i64.wrap ((i : Int) + 1) = ((i + 1 : Nat) : Int) := by
  have e : ((i : Int) + 1) = ((i + 1 : Nat) : Int) := by omega
  rw [e]; exact IntWalk.i64_in _ (by omega)
theorem drop_take_cons {α : Type} {xs : List α} {m i : Nat} (hm : m ≤ xs.length) (hi : i < m) : (xs.take m).drop i = xs[i] :: (xs.take m).drop (i + 1) := by
  rw [List.drop_eq_getElem_cons (by simp; omega)]
  simp
theorem gz_eq {xs : List Int} {i : Nat} (h : i < xs.length) : gz xs i = xs[i] := by simp [gz, h]

namespace within
def R : List AVal → Option (Bool × AVal × List Blk)
  | [.int .i64 n, .int .i64 lo, .int .i64 hi] => some (true, .bool (decide (lo ≤ n) && decide (n ≤ hi)), [])
  | _ => none
theorem go (n lo hi : Int) :
  runFn Try.prog (orc []) hd0 Dr.std none 0 (bodyOf Try.f51) 15 [6] [.int .i64 n, .int .i64 lo, .int .i64 hi] []
  = (bif decide (lo ≤ n) then some (AVal.bool (decide (n ≤ hi)), []) else some (AVal.bool false, [])) := by kernel_rfl
theorem run : ∀ args v new, R args = some (true, v, new) → ∃ fuel, runFn Try.prog (orc []) hd0 Dr.std none fuel (bodyOf Try.f51) 15 [6] args [] = some (v, new) := by
  intro args v new h
  unfold R at h
  split at h
  · rename_i n lo hi
    simp only [Option.some.injEq, Prod.mk.injEq, true_and] at h
    obtain ⟨rfl, rfl⟩ := h
    refine ⟨0, ?_⟩
    rw [go]
    cases decide (lo ≤ n) <;> rfl
  · cases h
theorem ok : EntOk Try.prog ⟨51, R⟩ :=
  ent_ok (es := []) mixed (by simp) Try.func51 (by kernel_rfl) (by kernel_rfl) (n := 15) (ts := [6]) (hd := hd0) (dr := Dr.std) (cut := none) (by kernel_rfl) (by kernel_rfl) (by kernel_rfl) run
end within

namespace l00In
def R : List AVal → Option (Bool × AVal × List Blk)
  | [.int .i64 n, .int .i64 lo, .int .i64 hi] => some (true, .bool (decide (lo ≤ n) && decide (n ≤ hi)), [])
  | _ => none
theorem go (n lo hi : Int) :
  runFn Try.prog (orc []) hd0 Dr.std none 0 (bodyOf Try.f29) 15 [6] [.int .i64 n, .int .i64 lo, .int .i64 hi] []
  = (bif decide (lo ≤ n) then some (AVal.bool (decide (n ≤ hi)), []) else some (AVal.bool false, [])) := by kernel_rfl
theorem run : ∀ args v new, R args = some (true, v, new) → ∃ fuel, runFn Try.prog (orc []) hd0 Dr.std none fuel (bodyOf Try.f29) 15 [6] args [] = some (v, new) := by
  intro args v new h
  unfold R at h
  split at h
  · rename_i n lo hi
    simp only [Option.some.injEq, Prod.mk.injEq, true_and] at h
    obtain ⟨rfl, rfl⟩ := h
    refine ⟨0, ?_⟩
    rw [go]
    cases decide (lo ≤ n) <;> rfl
  · cases h
theorem ok : EntOk Try.prog ⟨29, R⟩ :=
  ent_ok (es := []) mixed (by simp) Try.func29 (by kernel_rfl) (by kernel_rfl) (n := 15) (ts := [6]) (hd := hd0) (dr := Dr.std) (cut := none) (by kernel_rfl) (by kernel_rfl) (by kernel_rfl) run
end l00In

namespace toInt64S
def R : List AVal → Option (Bool × AVal × List Blk)
  | [.ro (.ints .i64 xs) m 1] => some (decide (m ≤ xs.length ∧ m ≤ 1048576), .own 0 0 m 0 1, [⟨.typ (.ints .i64 (xs.take m)), 0⟩])
  | _ => none
def hd : Nat → Head := fun _ => ⟨[0, 3, 4], some 1⟩
noncomputable def L (f n : Nat) (s : State) := loopAt Try.prog (orc []) hd Dr.std 0 f (bodyOf Try.f39) 0 [true, true, false, true] (retK Try.prog [2] 0 (some 1)) n s
theorem start (xs : List Int) (m f : Nat) :
  runFn Try.prog (orc []) hd Dr.std (some 1) f (bodyOf Try.f39) 22 [2] [.ro (.ints .i64 xs) m 1] []
  = (bif (1 : Nat) == (1 : Nat) && ((↑m : Int) == (↑m : Int) && (decide ((0 : Int) ≤ (↑m : Int)) && (decide ((↑m : Int) * (8 : Int) ≤ (140737488355328 : Int)) && decide ((↑m : Int) ≤ (4611686018427387904 : Int))))) then L f f (mkS (22 : Nat) [((0 : Nat), AVal.ro (Cont.ints IntKind.i64 xs) m (1 : Nat)), ((3 : Nat), AVal.own (0 : Nat) (0 : Nat) (↑m : Int).toNat (0 : Nat) (1 : Nat)), ((4 : Nat), AVal.int IntKind.i64 (0 : Int))] [{ c := BC.typ (Cont.ints IntKind.i64 (List.replicate (↑m : Int).toNat (0 : Int))), ver := (0 : Nat) }]) else none) := by kernel_rfl
theorem round (xs : List Int) (m i : Nat) (ys : List Int) (f n : Nat) :
  L f (n + 1) (mkS 22 [(0, .ro (.ints .i64 xs) m 1), (3, .own 0 0 m 0 1), (4, .int .i64 i)] [⟨.typ (.ints .i64 ys), 0⟩])
  = (bif decide ((↑i : Int) < (↑m : Int)) then bif true && (decide ((0 : Int) ≤ (↑i : Int)) && decide ((↑i : Int) < (↑m : Int))) then bif decide ((↑i : Int).toNat < xs.length) then bif true && (decide ((0 : Int) ≤ (↑i : Int)) && decide ((↑i : Int) < (↑m : Int))) then bif true && (true && (decide ((↑i : Int).toNat < ys.length) && true)) then L f n (mkS (22 : Nat) [((0 : Nat), AVal.ro (Cont.ints IntKind.i64 xs) m (1 : Nat)), ((3 : Nat), AVal.own (0 : Nat) (0 : Nat) m (0 : Nat) (1 : Nat)), ((4 : Nat), AVal.int IntKind.i64 (IntKind.i64.wrap ((↑i : Int) + (1 : Int))))] [{ c := BC.typ (Cont.ints IntKind.i64 (ys.set (↑i : Int).toNat (gz xs (↑i : Int).toNat))), ver := (0 : Nat) }]) else none else none else none else none else some (AVal.own (0 : Nat) (0 : Nat) m (0 : Nat) (1 : Nat), [{ c := BC.typ (Cont.ints IntKind.i64 ys), ver := (0 : Nat) }])) := by kernel_rfl
theorem loop (xs : List Int) (m f : Nat) (hm : m ≤ xs.length) (hb : m ≤ 1048576) : ∀ (d i n : Nat) (ys : List Int), i + d = m → d < n → ys.length = m → ys.take i = xs.take i →
    L f n (mkS 22 [(0, .ro (.ints .i64 xs) m 1), (3, .own 0 0 m 0 1), (4, .int .i64 i)] [⟨.typ (.ints .i64 ys), 0⟩]) = some (.own 0 0 m 0 1, [⟨.typ (.ints .i64 (xs.take m)), 0⟩]) := by
  intro d
  induction d with
  | zero =>
    intro i n ys hi hn hl ht
    obtain ⟨n, rfl⟩ : ∃ k, n = k + 1 := ⟨n - 1, by omega⟩
    obtain rfl : i = m := by omega
    rw [round]
    have : ys = xs.take i := by rw [← ht, List.take_of_length_le (by omega)]
    simp [this]
  | succ d ih =>
    intro i n ys hi hn hl ht
    obtain ⟨n, rfl⟩ : ∃ k, n = k + 1 := ⟨n - 1, by omega⟩
    have h1 : i < m := by omega
    have h2 : i < xs.length := by omega
    have h3 : i < ys.length := by omega
    rw [round]
    have h4 : (0 : Int) ≤ (i : Int) := Int.natCast_nonneg _
    have h5 : (i : Int) < (m : Int) := by omega
    simp only [h4, h5, h2, h3, decide_true, Bool.and_self, cond_true, Int.toNat_natCast, wrap_nat i (by omega)]
    refine ih (i + 1) n _ (by omega) (by omega) (by simpa using hl) ?_
    rw [List.take_add_one, List.take_add_one, List.take_set_of_le (Nat.le_refl _), ht, gz_eq h2]
    simp [h2, h3]
theorem run : ∀ args v new, R args = some (true, v, new) → ∃ fuel, runFn Try.prog (orc []) hd Dr.std (some 1) fuel (bodyOf Try.f39) 22 [2] args [] = some (v, new) := by
  intro args v new h
  unfold R at h
  split at h
  · rename_i xs m
    simp only [Option.some.injEq, Prod.mk.injEq, decide_eq_true_eq] at h
    obtain ⟨⟨h1, h2⟩, rfl, rfl⟩ := h
    refine ⟨m + 1, ?_⟩
    rw [start]
    have c1 : (0 : Int) ≤ (m : Int) := Int.natCast_nonneg _
    have c2 : (m : Int) * 8 ≤ 140737488355328 := by omega
    have c3 : (m : Int) ≤ 4611686018427387904 := by omega
    simp only [c1, c2, c3, decide_true, Bool.and_self, cond_true, Int.toNat_natCast, BEq.rfl]
    exact loop xs m (m + 1) h1 h2 m 0 (m + 1) (List.replicate m 0) (by omega) (by omega) List.length_replicate rfl
  · cases h
theorem ok : EntOk Try.prog ⟨39, R⟩ :=
  ent_ok (es := []) mixed (by simp) Try.func39 (by kernel_rfl) (by kernel_rfl) (n := 22) (ts := [2]) (hd := hd) (dr := Dr.std) (cut := some 1) (by kernel_rfl) (by kernel_rfl) (by kernel_rfl) run
end toInt64S

namespace eqInt64S
def R : List AVal → Option (Bool × AVal × List Blk)
  | [.ro (.ints .i64 xs) m 1, .ro (.ints .i64 ys) k 1] => some (decide (m ≤ xs.length ∧ k ≤ ys.length ∧ m ≤ 4611686018427387904), .bool (decide (xs.take m = ys.take k)), [])
  | _ => none
def hd : Nat → Head := fun _ => ⟨[0, 1, 4, 5], none⟩
noncomputable def L (f n : Nat) (s : State) := loopAt Try.prog (orc []) hd Dr.std 0 f (bodyOf Try.f10) 0 [true, true, false, true] (retK Try.prog [4] 0 none) n s
theorem start (xs ys : List Int) (m k f : Nat) :
  runFn Try.prog (orc []) hd Dr.std none f (bodyOf Try.f10) 26 [4] [.ro (.ints .i64 xs) m 1, .ro (.ints .i64 ys) k 1] []
  = (bif (↑m : Int) != (↑k : Int) then some (AVal.bool false, []) else L f f (mkS (26 : Nat) [((0 : Nat), AVal.ro (Cont.ints IntKind.i64 xs) m (1 : Nat)), ((1 : Nat), AVal.ro (Cont.ints IntKind.i64 ys) k (1 : Nat)), ((4 : Nat), AVal.bool false), ((5 : Nat), AVal.int IntKind.i64 (0 : Int))] [])) := by kernel_rfl
theorem round (xs ys : List Int) (m k i : Nat) (f n : Nat) :
  L f (n + 1) (mkS 26 [(0, .ro (.ints .i64 xs) m 1), (1, .ro (.ints .i64 ys) k 1), (4, .bool false), (5, .int .i64 i)] [])
  = (bif decide ((↑i : Int) < (↑m : Int)) then bif true && (decide ((0 : Int) ≤ (↑i : Int)) && decide ((↑i : Int) < (↑m : Int))) then bif decide ((↑i : Int).toNat < xs.length) then bif true && (decide ((0 : Int) ≤ (↑i : Int)) && decide ((↑i : Int) < (↑k : Int))) then bif decide ((↑i : Int).toNat < ys.length) then bif gz xs (↑i : Int).toNat != gz ys (↑i : Int).toNat then some (AVal.bool false, []) else L f n (mkS (26 : Nat) [((0 : Nat), AVal.ro (Cont.ints IntKind.i64 xs) m (1 : Nat)), ((1 : Nat), AVal.ro (Cont.ints IntKind.i64 ys) k (1 : Nat)), ((4 : Nat), AVal.bool false), ((5 : Nat), AVal.int IntKind.i64 (IntKind.i64.wrap ((↑i : Int) + (1 : Int))))] []) else none else none else none else none else some (AVal.bool true, [])) := by kernel_rfl
theorem loop (xs ys : List Int) (m f : Nat) (hx : m ≤ xs.length) (hy : m ≤ ys.length) (hb : m ≤ 4611686018427387904) : ∀ (d i n : Nat), i + d = m → d < n →
    L f n (mkS 26 [(0, .ro (.ints .i64 xs) m 1), (1, .ro (.ints .i64 ys) m 1), (4, .bool false), (5, .int .i64 i)] []) = some (.bool (decide ((xs.take m).drop i = (ys.take m).drop i)), []) := by
  intro d
  induction d with
  | zero =>
    intro i n hi hn
    obtain ⟨n, rfl⟩ : ∃ k, n = k + 1 := ⟨n - 1, by omega⟩
    obtain rfl : i = m := by omega
    rw [round]
    simp
  | succ d ih =>
    intro i n hi hn
    obtain ⟨n, rfl⟩ : ∃ k, n = k + 1 := ⟨n - 1, by omega⟩
    have h1 : i < m := by omega
    have h2 : i < xs.length := by omega
    have h3 : i < ys.length := by omega
    rw [round]
    have h4 : (0 : Int) ≤ (i : Int) := Int.natCast_nonneg _
    have h5 : (i : Int) < (m : Int) := by omega
    simp only [h4, h5, h2, h3, decide_true, Bool.and_self, cond_true, Int.toNat_natCast, wrap_nat i (by omega), gz_eq h2, gz_eq h3]
    rw [drop_take_cons hx h1, drop_take_cons hy h1]
    by_cases hc : xs[i] = ys[i]
    · have : (xs[i] != ys[i]) = false := by simp [hc]
      simp only [this, cond_false]
      rw [ih (i + 1) n (by omega) (by omega)]
      simp [hc]
    · have : (xs[i] != ys[i]) = true := by simp [hc]
      simp [this, hc]
theorem run : ∀ args v new, R args = some (true, v, new) → ∃ fuel, runFn Try.prog (orc []) hd Dr.std none fuel (bodyOf Try.f10) 26 [4] args [] = some (v, new) := by
  intro args v new h
  unfold R at h
  split at h
  · rename_i xs m ys k
    simp only [Option.some.injEq, Prod.mk.injEq, decide_eq_true_eq] at h
    obtain ⟨⟨h1, h2, h3⟩, rfl, rfl⟩ := h
    refine ⟨m + 1, ?_⟩
    rw [start]
    by_cases hmk : m = k
    · subst hmk
      simp only [bne_self_eq_false, cond_false]
      simpa using loop xs ys m (m + 1) h1 h2 h3 m 0 (m + 1) (by omega) (by omega)
    · have c : ((m : Int) != (k : Int)) = true := by simp only [bne_iff_ne, ne_eq, Int.natCast_inj]; exact hmk
      have c2 : ¬ xs.take m = ys.take k := fun h => by
        have := congrArg List.length h
        simp only [List.length_take] at this; omega
      simp [c, c2]
  · cases h
theorem ok : EntOk Try.prog ⟨10, R⟩ :=
  ent_ok (es := []) mixed (by simp) Try.func10 (by kernel_rfl) (by kernel_rfl) (n := 26) (ts := [4]) (hd := hd) (dr := Dr.std) (cut := none) (by kernel_rfl) (by kernel_rfl) (by kernel_rfl) run
end eqInt64S

namespace areWithin
def R : List AVal → Option (Bool × AVal × List Blk)
  | [.ro (.ints .i64 xs) m 1, .int .i64 lo, .int .i64 hi] => some (decide (m ≤ xs.length ∧ m ≤ 4611686018427387904), .bool ((xs.take m).all fun x => decide (lo ≤ x) && decide (x ≤ hi)), [])
  | _ => none
def hd : Nat → Head := fun _ => ⟨[1, 2, 6, 9, 10, 11], none⟩
noncomputable def L (f n : Nat) (s : State) := loopAt Try.prog (orc [⟨51, within.R⟩]) hd Dr.std 0 f (bodyOf Try.f74) 0 [true, false, true] (retK Try.prog [6] 0 none) n s
theorem start (xs : List Int) (m : Nat) (lo hi : Int) (f : Nat) :
  runFn Try.prog (orc [⟨51, within.R⟩]) hd Dr.std none f (bodyOf Try.f74) 21 [6] [.ro (.ints .i64 xs) m 1, .int .i64 lo, .int .i64 hi] []
  = (L f f (mkS (21 : Nat) [((1 : Nat), AVal.int IntKind.i64 lo), ((2 : Nat), AVal.int IntKind.i64 hi), ((6 : Nat), AVal.bool false), ((9 : Nat), AVal.ro (Cont.ints IntKind.i64 xs) m (1 : Nat)), ((10 : Nat), AVal.int IntKind.i64 (↑m : Int)), ((11 : Nat), AVal.int IntKind.i64 (0 : Int))] [])) := by kernel_rfl
theorem round (xs : List Int) (m i : Nat) (lo hi : Int) (f n : Nat) :
  L f (n + 1) (mkS 21 [(1, .int .i64 lo), (2, .int .i64 hi), (6, .bool false), (9, .ro (.ints .i64 xs) m 1), (10, .int .i64 m), (11, .int .i64 i)] [])
  = (bif decide ((↑i : Int) < (↑m : Int)) then bif true && (decide ((0 : Int) ≤ (↑i : Int)) && decide ((↑i : Int) < (↑m : Int))) then bif decide ((↑i : Int).toNat < xs.length) then bif true && (true && (true && (true && true)) || true && true) then bif !(decide (lo ≤ gz xs (↑i : Int).toNat) && decide (gz xs (↑i : Int).toNat ≤ hi)) then some (AVal.bool false, []) else L f n (mkS (21 : Nat) [((1 : Nat), AVal.int IntKind.i64 lo), ((2 : Nat), AVal.int IntKind.i64 hi), ((6 : Nat), AVal.bool false), ((9 : Nat), AVal.ro (Cont.ints IntKind.i64 xs) m (1 : Nat)), ((10 : Nat), AVal.int IntKind.i64 (↑m : Int)), ((11 : Nat), AVal.int IntKind.i64 (IntKind.i64.wrap ((↑i : Int) + (1 : Int))))] []) else none else none else none else some (AVal.bool true, [])) := by kernel_rfl
theorem loop (xs : List Int) (m : Nat) (lo hi : Int) (f : Nat) (hx : m ≤ xs.length) (hb : m ≤ 4611686018427387904) : ∀ (d i n : Nat), i + d = m → d < n →
    L f n (mkS 21 [(1, .int .i64 lo), (2, .int .i64 hi), (6, .bool false), (9, .ro (.ints .i64 xs) m 1), (10, .int .i64 m), (11, .int .i64 i)] []) = some (.bool (((xs.take m).drop i).all fun x => decide (lo ≤ x) && decide (x ≤ hi)), []) := by
  intro d
  induction d with
  | zero =>
    intro i n hj hn
    obtain ⟨n, rfl⟩ : ∃ k, n = k + 1 := ⟨n - 1, by omega⟩
    obtain rfl : i = m := by omega
    rw [round]
    simp
  | succ d ih =>
    intro i n hj hn
    obtain ⟨n, rfl⟩ : ∃ k, n = k + 1 := ⟨n - 1, by omega⟩
    have h1 : i < m := by omega
    have h2 : i < xs.length := by omega
    rw [round]
    have h4 : (0 : Int) ≤ (i : Int) := Int.natCast_nonneg _
    have h5 : (i : Int) < (m : Int) := by omega
    simp only [h4, h5, h2, decide_true, Bool.and_self, Bool.or_self, cond_true, Int.toNat_natCast, wrap_nat i (by omega), gz_eq h2]
    rw [drop_take_cons hx h1, List.all_cons]
    generalize (decide (lo ≤ xs[i]) && decide (xs[i] ≤ hi)) = b
    cases b
    · rfl
    · simp only [Bool.not_true, cond_false, Bool.true_and]
      exact ih (i + 1) n (by omega) (by omega)
theorem run : ∀ args v new, R args = some (true, v, new) → ∃ fuel, runFn Try.prog (orc [⟨51, within.R⟩]) hd Dr.std none fuel (bodyOf Try.f74) 21 [6] args [] = some (v, new) := by
  intro args v new h
  unfold R at h
  split at h
  · rename_i xs m lo hi
    simp only [Option.some.injEq, Prod.mk.injEq, decide_eq_true_eq] at h
    obtain ⟨⟨h1, h3⟩, rfl, rfl⟩ := h
    refine ⟨m + 1, ?_⟩
    rw [start]
    exact loop xs m lo hi (m + 1) h1 h3 m 0 (m + 1) (by omega) (by omega)
  · cases h
theorem ok : EntOk Try.prog ⟨74, R⟩ :=
  ent_ok (es := [⟨51, within.R⟩]) mixed (by simp only [List.mem_cons, List.not_mem_nil, or_false, forall_eq_or_imp, forall_eq]; exact within.ok) Try.func74 (by kernel_rfl) (by kernel_rfl) (n := 21) (ts := [6]) (hd := hd) (dr := Dr.std) (cut := none) (by kernel_rfl) (by kernel_rfl) (by kernel_rfl) run
end areWithin

end Go.Proofs.Ythecninmmojkgaa.Ab
