/-
  Functions: bargains.
-/
import Derived.Test.YtadpndpbooofiaaFnA
namespace Go.Proofs.Ytadpndpbooofiaa.Ab
open Go
set_option linter.unusedVariables false
set_option linter.unusedSimpArgs false
set_option maxRecDepth 100000

theorem bif_and (b c : Bool) (H : Heap) : (bif b then some (AVal.bool c, H) else some (AVal.bool false, H)) = some (.bool (b && c), H) := by cases b <;> rfl
theorem if_tail {α : Type} {b : Bool} {x y z : α} (h1 : b = true → x = z) (h2 : b = false → y = z) : (bif b then x else y) = z := by cases b; exact h2 rfl; exact h1 rfl

namespace areMany
def R : List AVal → Option (Bool × AVal × List Blk)
  | [.ro (.ints .i64 xs) m 1, .int .i64 few, .int .i64 many, .int .i64 lo, .int .i64 hi] => some (decide (m ≤ xs.length ∧ m ≤ 4611686018427387904), .bool ((decide (few ≤ m) && decide ((m : Int) ≤ many)) && (xs.take m).all fun x => decide (lo ≤ x) && decide (x ≤ hi)), [])
  | _ => none
theorem go (xs : List Int) (m : Nat) (few many lo hi : Int) :
  runFn Try.prog (orc [⟨48, within.R⟩, ⟨47, areWithin.R⟩]) hd0 Dr.std none 0 (bodyOf Try.f36) 22 [10] [.ro (.ints .i64 xs) m 1, .int .i64 few, .int .i64 many, .int .i64 lo, .int .i64 hi] []
  = (bif true && (true && (true && (true && true)) || true && true) then bif decide (few ≤ (↑m : Int)) && decide ((↑m : Int) ≤ many) then bif decide (m ≤ xs.length ∧ m ≤ (4611686018427387904 : Nat)) && (true && (true && (true && true)) || true && true) then some (AVal.bool ((List.take m xs).all fun x => decide (lo ≤ x) && decide (x ≤ hi)), []) else none else some (AVal.bool false, []) else none) := by kernel_rfl
theorem run : ∀ args v new, R args = some (true, v, new) → ∃ fuel, runFn Try.prog (orc [⟨48, within.R⟩, ⟨47, areWithin.R⟩]) hd0 Dr.std none fuel (bodyOf Try.f36) 22 [10] args [] = some (v, new) := by
  intro args v new h
  unfold R at h
  split at h
  · simp only [Option.some.injEq, Prod.mk.injEq, decide_eq_true_eq] at h
    obtain ⟨⟨h1, h2⟩, rfl, rfl⟩ := h
    refine ⟨0, ?_⟩
    rw [go]
    simp only [h1, h2, and_self, decide_true, Bool.and_self, Bool.or_self, cond_true]
    exact bif_and _ _ _
  · cases h
theorem ok : EntOk Try.prog ⟨36, R⟩ :=
  ent_ok (es := [⟨48, within.R⟩, ⟨47, areWithin.R⟩]) mixed (by simp only [List.mem_cons, List.not_mem_nil, or_false, forall_eq_or_imp, forall_eq]; exact ⟨within.ok, areWithin.ok⟩) Try.func36 (by kernel_rfl) (by kernel_rfl) (n := 22) (ts := [10]) (hd := hd0) (dr := Dr.std) (cut := none) (by kernel_rfl) (by kernel_rfl) (by kernel_rfl) run
end areMany

namespace l07Points
def sp (xs : List Int) : Bool := (decide (2 ≤ xs.length) && (decide (xs.length ≤ 32) && decide (xs.length % 2 = 0))) && xs.all fun x => decide (0 ≤ x) && decide (x ≤ 1000)
def R : List AVal → Option (Bool × AVal × List Blk)
  | [.ro (.ints .i64 xs) m 1] => some (decide (m ≤ xs.length ∧ m ≤ 4611686018427387904), .bool (sp (xs.take m)), [])
  | _ => none
def hd : Nat → Head := fun _ => ⟨[0, 2, 19, 20], none⟩
noncomputable def L (f n : Nat) (s : State) := loopAt Try.prog (orc [⟨45, l00In.R⟩]) hd Dr.std 0 f (bodyOf Try.f24) 0 [true, true, true, false, true] (retK Try.prog [2] 0 none) n s
theorem start (xs : List Int) (m : Nat) (f : Nat) :
  runFn Try.prog (orc [⟨45, l00In.R⟩]) hd Dr.std none f (bodyOf Try.f24) 30 [2] [.ro (.ints .i64 xs) m 1] []
  = (bif decide ((↑m : Int) < (2 : Int)) then some (AVal.bool false, []) else bif decide ((32 : Int) < (↑m : Int)) then some (AVal.bool false, []) else bif (↑m : Int).tmod (2 : Int) != (0 : Int) then some (AVal.bool false, []) else L f f (mkS (30 : Nat) [((0 : Nat), AVal.ro (Cont.ints IntKind.i64 xs) m (1 : Nat)), ((2 : Nat), AVal.bool false), ((19 : Nat), AVal.int IntKind.i64 (↑m : Int)), ((20 : Nat), AVal.int IntKind.i64 (0 : Int))] [])) := by kernel_rfl
theorem round (xs : List Int) (m i : Nat) (f n : Nat) :
  L f (n + 1) (mkS 30 [(0, .ro (.ints .i64 xs) m 1), (2, .bool false), (19, .int .i64 m), (20, .int .i64 i)] [])
  = (bif decide ((↑i : Int) < (↑m : Int)) then bif true && (decide ((0 : Int) ≤ (↑i : Int)) && decide ((↑i : Int) < (↑m : Int))) then bif decide ((↑i : Int).toNat < xs.length) then bif true && (true && true || true && true) then bif !(decide ((0 : Int) ≤ gz xs (↑i : Int).toNat) && decide (gz xs (↑i : Int).toNat ≤ (1000 : Int))) then some (AVal.bool false, []) else L f n (mkS (30 : Nat) [((0 : Nat), AVal.ro (Cont.ints IntKind.i64 xs) m (1 : Nat)), ((2 : Nat), AVal.bool false), ((19 : Nat), AVal.int IntKind.i64 (↑m : Int)), ((20 : Nat), AVal.int IntKind.i64 (IntKind.i64.wrap ((↑i : Int) + (1 : Int))))] []) else none else none else none else some (AVal.bool true, [])) := by kernel_rfl
theorem loop (xs : List Int) (m : Nat) (f : Nat) (hx : m ≤ xs.length) (hb : m ≤ 4611686018427387904) : ∀ (d i n : Nat), i + d = m → d < n →
    L f n (mkS 30 [(0, .ro (.ints .i64 xs) m 1), (2, .bool false), (19, .int .i64 m), (20, .int .i64 i)] []) = some (.bool (((xs.take m).drop i).all fun x => decide (0 ≤ x) && decide (x ≤ 1000)), []) := by
  intro d
  induction d with
  | zero =>
    intro i n hj hn
    obtain ⟨n, rfl⟩ : ∃ k, n = k + 1 := ⟨n - 1, by omega⟩
    obtain rfl : i = m := by omega
    rw [round]
    simp
  | succ d ih =>
    intro i n hj hn
    obtain ⟨n, rfl⟩ : ∃ k, n = k + 1 := ⟨n - 1, by omega⟩
    have h1 : i < m := by omega
    have h2 : i < xs.length := by omega
    rw [round]
    have h4 : (0 : Int) ≤ (i : Int) := Int.natCast_nonneg _
    have h5 : (i : Int) < (m : Int) := by omega
    simp only [h4, h5, h2, decide_true, Bool.and_self, Bool.or_self, cond_true, Int.toNat_natCast, wrap_nat i (by omega), gz_eq h2]
    rw [drop_take_cons hx h1, List.all_cons]
    generalize (decide (0 ≤ xs[i]) && decide (xs[i] ≤ 1000)) = b
    cases b
    · rfl
    · simp only [Bool.not_true, cond_false, Bool.true_and]
      exact ih (i + 1) n (by omega) (by omega)
theorem run : ∀ args v new, R args = some (true, v, new) → ∃ fuel, runFn Try.prog (orc [⟨45, l00In.R⟩]) hd Dr.std none fuel (bodyOf Try.f24) 30 [2] args [] = some (v, new) := by
  intro args v new h
  unfold R at h
  split at h
  · rename_i xs m
    simp only [Option.some.injEq, Prod.mk.injEq, decide_eq_true_eq] at h
    obtain ⟨⟨h1, h3⟩, rfl, rfl⟩ := h
    refine ⟨m + 1, ?_⟩
    rw [start]
    have hl := loop xs m (m + 1) h1 h3 m 0 (m + 1) (by omega) (by omega)
    have hlen : (xs.take m).length = m := by simp; omega
    have hmod : (m : Int).tmod 2 = ((m % 2 : Nat) : Int) := rfl
    simp only [sp, hlen, hmod]
    by_cases c1 : (m : Int) < 2
    · have : ¬ 2 ≤ m := by omega
      simp [c1, this]
    by_cases c2 : (32 : Int) < (m : Int)
    · have : ¬ m ≤ 32 := by omega
      simp [c1, c2, this]
    have d1 : 2 ≤ m := by omega
    have d2 : m ≤ 32 := by omega
    by_cases c3 : m % 2 = 0
    · have e : (((m % 2 : Nat) : Int) != 0) = false := by simp only [c3]; rfl
      simp only [c1, c2, e, c3, d1, d2, decide_true, decide_false, cond_false, Bool.and_self, Bool.true_and]
      exact hl
    · have e : (((m % 2 : Nat) : Int) != 0) = true := by simp only [bne_iff_ne, ne_eq]; omega
      simp only [c1, c2, e, c3, decide_false, cond_false, cond_true, Bool.and_false, Bool.false_and]
  · cases h
theorem ok : EntOk Try.prog ⟨24, R⟩ :=
  ent_ok (es := [⟨45, l00In.R⟩]) mixed (by simp only [List.mem_cons, List.not_mem_nil, or_false, forall_eq_or_imp, forall_eq]; exact l00In.ok) Try.func24 (by kernel_rfl) (by kernel_rfl) (n := 30) (ts := [2]) (hd := hd) (dr := Dr.std) (cut := none) (by kernel_rfl) (by kernel_rfl) (by kernel_rfl) run
end l07Points


namespace iIsBargain
def R : List AVal → Option (Bool × AVal × List Blk)
  | [.ro (.ints .i64 xs) m 1] => some (decide (m ≤ xs.length ∧ m ≤ 4611686018427387904), .bool (l07Points.sp (xs.take m)), [])
  | _ => none
theorem go (xs : List Int) (m : Nat) :
  runFn Try.prog (orc [⟨36, areMany.R⟩]) hd0 Dr.std none 0 (bodyOf Try.f25) 11 [2] [.ro (.ints .i64 xs) m 1] []
  = (bif decide (m ≤ xs.length ∧ m ≤ (4611686018427387904 : Nat)) && (true && true || true && true) then bif decide ((2 : Int) ≤ (↑m : Int)) && decide ((↑m : Int) ≤ (32 : Int)) && (List.take m xs).all fun x => decide ((0 : Int) ≤ x) && decide (x ≤ (1000 : Int)) then some (AVal.bool ((↑m : Int).tmod (2 : Int) == (0 : Int)), []) else some (AVal.bool false, []) else none) := by kernel_rfl
theorem run : ∀ args v new, R args = some (true, v, new) → ∃ fuel, runFn Try.prog (orc [⟨36, areMany.R⟩]) hd0 Dr.std none fuel (bodyOf Try.f25) 11 [2] args [] = some (v, new) := by
  intro args v new h
  unfold R at h
  split at h
  · rename_i xs m
    simp only [Option.some.injEq, Prod.mk.injEq, decide_eq_true_eq] at h
    obtain ⟨⟨h1, h2⟩, rfl, rfl⟩ := h
    refine ⟨0, ?_⟩
    rw [go]
    have hlen : (xs.take m).length = m := by simp; omega
    have hmod : (m : Int).tmod 2 = ((m % 2 : Nat) : Int) := rfl
    have e1 : decide ((2 : Int) ≤ (m : Int)) = decide (2 ≤ m) := by congr 1; apply propext; omega
    have e2 : decide ((m : Int) ≤ 32) = decide (m ≤ 32) := by congr 1; apply propext; omega
    have e3 : (((m % 2 : Nat) : Int) == 0) = decide (m % 2 = 0) := by
      by_cases c : m % 2 = 0
      · rw [c]; rfl
      · simp only [c, decide_false, beq_eq_false_iff_ne, ne_eq]; omega
    simp only [h1, h2, and_self, decide_true, Bool.and_self, Bool.or_self, cond_true, hmod, e1, e2, e3, l07Points.sp, hlen]
    cases decide (2 ≤ m) <;> cases decide (m ≤ 32) <;> cases decide (m % 2 = 0) <;> cases (xs.take m).all (fun x => decide (0 ≤ x) && decide (x ≤ 1000)) <;> rfl
  · cases h
theorem ok : EntOk Try.prog ⟨25, R⟩ :=
  ent_ok (es := [⟨36, areMany.R⟩]) mixed (by simp only [List.mem_cons, List.not_mem_nil, or_false, forall_eq_or_imp, forall_eq]; exact areMany.ok) Try.func25 (by kernel_rfl) (by kernel_rfl) (n := 11) (ts := [2]) (hd := hd0) (dr := Dr.std) (cut := none) (by kernel_rfl) (by kernel_rfl) (by kernel_rfl) run
end iIsBargain


end Go.Proofs.Ytadpndpbooofiaa.Ab
