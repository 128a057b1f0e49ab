/-
  Functions: marks.
-/
import Derived.Test.YthecninmmojkgaaFnD
import Derived.Test.YthecninmmojkgaaAbSub
namespace Go.Proofs.Ythecninmmojkgaa.Ab
open Go
set_option linter.unusedVariables false
set_option linter.unusedSimpArgs false
set_option maxRecDepth 100000

def marks.sv (k : Int) (m : Nat) : List Int := (List.range m).map fun i : Nat => k + (i : Int)
theorem marks_length (k : Int) (m : Nat) : (marks.sv k m).length = m := by simp [marks.sv]
theorem marks_get (k : Int) (m i : Nat) (h : i < (marks.sv k m).length) : (marks.sv k m)[i] = k + (i : Int) := by simp [marks.sv]
theorem marks_take_succ (k : Int) (m i : Nat) (h : i < m) : (marks.sv k m).take (i + 1) = (marks.sv k m).take i ++ [k + (i : Int)] := by
  rw [List.take_add_one, List.getElem?_eq_getElem (by rw [marks_length]; exact h), marks_get]; rfl
theorem marks_drop (k : Int) (m i : Nat) (h : i < m) : (marks.sv k m).drop i = (k + (i : Int)) :: (marks.sv k m).drop (i + 1) := by
  rw [List.drop_eq_getElem_cons (by rw [marks_length]; exact h), marks_get]

namespace markInt64S
def R : List AVal → Heap → Option (Bool × AVal × Heap)
  | [.own 0 0 m 0 1, .int .i64 k], [⟨.typ (.ints .i64 xs), 0⟩] => some (decide (m = xs.length ∧ m ≤ 4611686018427387904 ∧ 0 ≤ k ∧ k ≤ 1000000000), .int .i64 (k + m), [⟨.typ (.ints .i64 (marks.sv k m)), 0⟩])
  | [.nils, .int .i64 k], [] => some (true, .int .i64 k, [])
  | _, _ => none
def hd : Nat → Head := fun _ => ⟨[0, 1, 5], none⟩
noncomputable def L (f n : Nat) (s : State) := loopAt Try.prog (orc []) hd Dr.std 1 f (bodyOf Try.f13) 0 [true, false, true] (retK Try.prog [4] 1 none) n s
theorem start (xs : List Int) (m : Nat) (k : Int) (f : Nat) :
  runFn Try.prog (orc []) hd Dr.std none f (bodyOf Try.f13) 19 [4] [.own 0 0 m 0 1, .int .i64 k] [⟨.typ (.ints .i64 xs), 0⟩]
  = (bif true && true then L f f (mkS (19 : Nat) [((0 : Nat), AVal.own (0 : Nat) (0 : Nat) m (0 : Nat) (1 : Nat)), ((1 : Nat), AVal.int IntKind.i64 k), ((5 : Nat), AVal.int IntKind.i64 (0 : Int))] [{ c := BC.typ (Cont.ints IntKind.i64 xs), ver := (0 : Nat) }]) else none) := by kernel_rfl
theorem round (ys : List Int) (m i : Nat) (k : Int) (f n : Nat) :
  L f (n + 1) (mkS 19 [(0, .own 0 0 m 0 1), (1, .int .i64 k), (5, .int .i64 i)] [⟨.typ (.ints .i64 ys), 0⟩])
  = (bif decide ((↑i : Int) < (↑m : Int)) then bif true && (decide ((0 : Int) ≤ (↑i : Int)) && decide ((↑i : Int) < (↑m : Int))) then bif true && (true && (decide ((↑i : Int).toNat < ys.length) && true)) then L f n (mkS (19 : Nat) [((0 : Nat), AVal.own (0 : Nat) (0 : Nat) m (0 : Nat) (1 : Nat)), ((1 : Nat), AVal.int IntKind.i64 (IntKind.i64.wrap (k + (1 : Int)))), ((5 : Nat), AVal.int IntKind.i64 (IntKind.i64.wrap ((↑i : Int) + (1 : Int))))] [{ c := BC.typ (Cont.ints IntKind.i64 (ys.set (↑i : Int).toNat k)), ver := (0 : Nat) }]) else none else none else some (AVal.int IntKind.i64 k, [{ c := BC.typ (Cont.ints IntKind.i64 ys), ver := (0 : Nat) }])) := by kernel_rfl
theorem nil (k : Int) :
  runFn Try.prog (orc []) hd Dr.std none 1 (bodyOf Try.f13) 19 [4] [.nils, .int .i64 k] []
  = (some (AVal.int IntKind.i64 k, [])) := by kernel_rfl
theorem loop (m : Nat) (k : Int) (f : Nat) (hb : m ≤ 4611686018427387904) (hk : 0 ≤ k) (hk' : k ≤ 1000000000) : ∀ (d i n : Nat) (ys : List Int), i + d = m → d < n → ys.length = m → ys.take i = (marks.sv k m).take i →
    L f n (mkS 19 [(0, .own 0 0 m 0 1), (1, .int .i64 (k + i)), (5, .int .i64 i)] [⟨.typ (.ints .i64 ys), 0⟩]) = some (.int .i64 (k + m), [⟨.typ (.ints .i64 (marks.sv k m)), 0⟩]) := by
  intro d
  induction d with
  | zero =>
    intro i n ys hi hn hl ht
    obtain ⟨n, rfl⟩ : ∃ k, n = k + 1 := ⟨n - 1, by omega⟩
    obtain rfl : i = m := by omega
    rw [round]
    have : ys = marks.sv k i := by
      rw [List.take_of_length_le (by omega), List.take_of_length_le (by rw [marks_length]; omega)] at ht; exact ht
    simp [this]
  | succ d ih =>
    intro i n ys hi hn hl ht
    obtain ⟨n, rfl⟩ : ∃ k, n = k + 1 := ⟨n - 1, by omega⟩
    have h1 : i < m := by omega
    have h3 : i < ys.length := by omega
    rw [round]
    have h4 : (0 : Int) ≤ (i : Int) := Int.natCast_nonneg _
    have h5 : (i : Int) < (m : Int) := by omega
    have e1 : IntKind.i64.wrap (k + (i : Int) + 1) = k + ((i + 1 : Nat) : Int) := by rw [IntWalk.i64_in _ (by omega)]; omega
    have e2 : IntKind.i64.wrap (k + (i : Int)) = k + (i : Int) := IntWalk.i64_in _ (by omega)
    simp only [h4, h5, h3, decide_true, Bool.and_self, Bool.and_true, Bool.true_and, cond_true, Int.toNat_natCast, wrap_nat i (by omega), e1, e2]
    refine ih (i + 1) n _ (by omega) (by omega) (by simpa using hl) ?_
    rw [List.take_add_one, marks_take_succ k m i h1, List.take_set_of_le (Nat.le_refl _), ht]
    simp [h3]
theorem run : ∀ args H v new, R args H = some (true, v, new) → ∃ fuel, runFn Try.prog (orc []) hd Dr.std none fuel (bodyOf Try.f13) 19 [4] args H = some (v, new) := by
  intro args H v new h
  unfold R at h
  split at h
  · rename_i m k xs
    simp only [Option.some.injEq, Prod.mk.injEq, decide_eq_true_eq] at h
    obtain ⟨⟨h1, h2, h3, h4⟩, rfl, rfl⟩ := h
    refine ⟨m + 1, ?_⟩
    rw [start]
    have := loop m k (m + 1) h2 h3 h4 m 0 (m + 1) xs (by omega) (by omega) h1.symm (by simp)
    simpa using this
  · simp only [Option.some.injEq, Prod.mk.injEq] at h
    obtain ⟨_, rfl, rfl⟩ := h
    exact ⟨1, nil _⟩
  · cases h
theorem ok : EntWOk Try.prog ⟨13, R⟩ :=
  entw_ok mixed (A := (orc [])) (orc_ok (by simp)) Try.func13 (by kernel_rfl) (by kernel_rfl) (n := 19) (ts := [4]) (hd := hd) (dr := Dr.std) (cut := none) (by kernel_rfl) (by kernel_rfl) (by kernel_rfl) run
end markInt64S

namespace heldInt64S
def R : List AVal → Option (Bool × AVal × List Blk)
  | [.ro (.ints .i64 xs) m 1, .int .i64 k] => some (decide (m ≤ xs.length ∧ m ≤ 4611686018427387904 ∧ 0 ≤ k ∧ k ≤ 1000000000), .int .i64 (bif decide (xs.take m = marks.sv k m) then k + m else -1), [])
  | [.nils, .int .i64 k] => some (true, .int .i64 k, [])
  | _ => none
def hd : Nat → Head := fun _ => ⟨[0, 1, 4, 5], none⟩
noncomputable def L (f n : Nat) (s : State) := loopAt Try.prog (orc []) hd Dr.std 0 f (bodyOf Try.f14) 0 [true, false, true] (retK Try.prog [4] 0 none) n s
theorem start (xs : List Int) (m : Nat) (k : Int) (f : Nat) :
  runFn Try.prog (orc []) hd Dr.std none f (bodyOf Try.f14) 21 [4] [.ro (.ints .i64 xs) m 1, .int .i64 k] []
  = (L f f (mkS (21 : Nat) [((0 : Nat), AVal.ro (Cont.ints IntKind.i64 xs) m (1 : Nat)), ((1 : Nat), AVal.int IntKind.i64 k), ((4 : Nat), AVal.int IntKind.i64 (0 : Int)), ((5 : Nat), AVal.int IntKind.i64 (0 : Int))] [])) := by kernel_rfl
theorem round (xs : List Int) (m i : Nat) (k : Int) (f n : Nat) :
  L f (n + 1) (mkS 21 [(0, .ro (.ints .i64 xs) m 1), (1, .int .i64 k), (4, .int .i64 0), (5, .int .i64 i)] [])
  = (bif decide ((↑i : Int) < (↑m : Int)) then bif true && (decide ((0 : Int) ≤ (↑i : Int)) && decide ((↑i : Int) < (↑m : Int))) then bif decide ((↑i : Int).toNat < xs.length) then bif gz xs (↑i : Int).toNat != k then some (AVal.int IntKind.i64 (-1 : Int), []) else L f n (mkS (21 : Nat) [((0 : Nat), AVal.ro (Cont.ints IntKind.i64 xs) m (1 : Nat)), ((1 : Nat), AVal.int IntKind.i64 (IntKind.i64.wrap (k + (1 : Int)))), ((4 : Nat), AVal.int IntKind.i64 (0 : Int)), ((5 : Nat), AVal.int IntKind.i64 (IntKind.i64.wrap ((↑i : Int) + (1 : Int))))] []) else none else none else some (AVal.int IntKind.i64 k, [])) := by kernel_rfl
theorem nil (k : Int) :
  runFn Try.prog (orc []) hd Dr.std none 1 (bodyOf Try.f14) 21 [4] [.nils, .int .i64 k] []
  = (some (AVal.int IntKind.i64 k, [])) := by kernel_rfl
theorem loop (xs : List Int) (m : Nat) (k : Int) (f : Nat) (hx : m ≤ xs.length) (hb : m ≤ 4611686018427387904) (hk : 0 ≤ k) (hk' : k ≤ 1000000000) : ∀ (d i n : Nat), i + d = m → d < n →
    L f n (mkS 21 [(0, .ro (.ints .i64 xs) m 1), (1, .int .i64 (k + i)), (4, .int .i64 0), (5, .int .i64 i)] []) = some (.int .i64 (bif decide ((xs.take m).drop i = (marks.sv k m).drop i) then k + m else -1), []) := by
  intro d
  induction d with
  | zero =>
    intro i n hi hn
    obtain ⟨n, rfl⟩ : ∃ k, n = k + 1 := ⟨n - 1, by omega⟩
    obtain rfl : i = m := by omega
    rw [round]
    have : (marks.sv k i).drop i = [] := List.drop_of_length_le (by rw [marks_length]; omega)
    simp [this]
  | succ d ih =>
    intro i n hi hn
    obtain ⟨n, rfl⟩ : ∃ k, n = k + 1 := ⟨n - 1, by omega⟩
    have h1 : i < m := by omega
    have h2 : i < xs.length := by omega
    rw [round]
    have h4 : (0 : Int) ≤ (i : Int) := Int.natCast_nonneg _
    have h5 : (i : Int) < (m : Int) := by omega
    have e1 : IntKind.i64.wrap (k + (i : Int) + 1) = k + ((i + 1 : Nat) : Int) := by rw [IntWalk.i64_in _ (by omega)]; omega
    have e2 : IntKind.i64.wrap (k + (i : Int)) = k + (i : Int) := IntWalk.i64_in _ (by omega)
    simp only [h4, h5, h2, decide_true, Bool.and_self, Bool.and_true, Bool.true_and, cond_true, Int.toNat_natCast, wrap_nat i (by omega), e1, e2, gz_eq h2]
    rw [drop_take_cons hx h1, marks_drop k m i h1]
    by_cases hc : xs[i] = k + (i : Int)
    · have : (xs[i] != k + (i : Int)) = false := by simp [hc]
      simp only [this, cond_false]
      rw [ih (i + 1) n (by omega) (by omega)]
      simp [hc]
    · have : (xs[i] != k + (i : Int)) = true := by simp [hc]
      simp [this, hc]
theorem run : ∀ args v new, R args = some (true, v, new) → ∃ fuel, runFn Try.prog (orc []) hd Dr.std none fuel (bodyOf Try.f14) 21 [4] args [] = some (v, new) := by
  intro args v new h
  unfold R at h
  split at h
  · rename_i xs m k
    simp only [Option.some.injEq, Prod.mk.injEq, decide_eq_true_eq] at h
    obtain ⟨⟨h1, h2, h3, h4⟩, rfl, rfl⟩ := h
    refine ⟨m + 1, ?_⟩
    rw [start]
    have := loop xs m k (m + 1) h1 h2 h3 h4 m 0 (m + 1) (by omega) (by omega)
    simpa using this
  · simp only [Option.some.injEq, Prod.mk.injEq] at h
    obtain ⟨_, rfl, rfl⟩ := h
    exact ⟨1, nil _⟩
  · cases h
theorem ok : EntOk Try.prog ⟨14, R⟩ :=
  ent_okA mixed (A := (orc [])) (orc_ok (by simp)) Try.func14 (by kernel_rfl) (by kernel_rfl) (n := 21) (ts := [4]) (hd := hd) (dr := Dr.std) (cut := none) (by kernel_rfl) (by kernel_rfl) (by kernel_rfl) run
end heldInt64S

theorem one_neg (n : Nat) : decide ((1 : Int) + (n : Int) < 0) = false := by simp; omega
theorem take_marks (k : Int) (n : Nat) : (marks.sv k n).take n = marks.sv k n := List.take_of_length_le (by rw [marks_length]; omega)
theorem one_set {α : Type} (z x : α) : List.take 1 (List.drop 0 ((List.replicate 1 z).set 0 x)) = [x] := rfl
theorem eqN_self (n : Nat) : eqN n n = true := by simp [eqN_eq]
theorem i0_1 : ((0 : Int) ≤ 1) = True := by simp
theorem i1_b : ((1 : Int) ≤ 1000000000) = True := by simp

namespace eqNil
def R : List AVal → Option (Bool × AVal × List Blk)
  | [.nils, .nils] => some (true, .bool true, [])
  | _ => none
def hd : Nat → Head := fun _ => ⟨[0, 1, 4, 5], none⟩
theorem nil :
  runFn Try.prog (orc []) hd Dr.std none 1 (bodyOf Try.f10) 26 [4] [.nils, .nils] []
  = (some (AVal.bool true, [])) := by kernel_rfl
theorem run : ∀ args v new, R args = some (true, v, new) → ∃ fuel, runFn Try.prog (orc []) hd Dr.std none fuel (bodyOf Try.f10) 26 [4] args [] = some (v, new) := by
  intro args v new h
  unfold R at h
  split at h
  · simp only [Option.some.injEq, Prod.mk.injEq] at h
    obtain ⟨_, rfl, rfl⟩ := h
    exact ⟨1, nil⟩
  · cases h
theorem ok : EntOk Try.prog ⟨10, R⟩ :=
  ent_okA mixed (A := (orc [])) (orc_ok (by simp)) Try.func10 (by kernel_rfl) (by kernel_rfl) (n := 26) (ts := [4]) (hd := hd) (dr := Dr.std) (cut := none) (by kernel_rfl) (by kernel_rfl) (by kernel_rfl) run
end eqNil

namespace eqInt64N
def R := orR eqInt64S.R eqNil.R
theorem ok : EntOk Try.prog ⟨10, R⟩ := EntOk.orR eqInt64S.ok eqNil.ok
end eqInt64N

end Go.Proofs.Ythecninmmojkgaa.Ab
