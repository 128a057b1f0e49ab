/-
  Functions: claims.
-/
import Derived.Test.YtmaegbgkpjbohaaFnB
namespace Go.Proofs.Ytmaegbgkpjbohaa.Ab
open Go
set_option linter.unusedVariables false
set_option linter.unusedSimpArgs false
set_option maxRecDepth 100000

namespace sumOf
def sp (xs : List Int) : Int := xs.foldl (fun s x => IntKind.i64.wrap (s + x)) 0
def R : List AVal → Option (Bool × AVal × List Blk)
  | [.ro (.ints .i64 xs) m 1] => some (decide (m ≤ xs.length ∧ m ≤ 4611686018427387904), .int .i64 (sp (xs.take m)), [])
  | _ => none
def hd : Nat → Head := fun _ => ⟨[3, 6, 7, 8], none⟩
noncomputable def L (f n : Nat) (s : State) := loopAt Try.prog (orc []) hd Dr.std 0 f (bodyOf Try.f55) 0 [true, true, false, true] (retK Try.prog [2] 0 none) n s
theorem start (xs : List Int) (m : Nat)  (f : Nat) :
  runFn Try.prog (orc []) hd Dr.std none f (bodyOf Try.f55) 17 [2] [.ro (.ints .i64 xs) m 1] []
  = (L f f (mkS (17 : Nat) [((3 : Nat), AVal.int IntKind.i64 (0 : Int)), ((6 : Nat), AVal.ro (Cont.ints IntKind.i64 xs) m (1 : Nat)), ((7 : Nat), AVal.int IntKind.i64 (↑m : Int)), ((8 : Nat), AVal.int IntKind.i64 (0 : Int))] [])) := by kernel_rfl
theorem round (xs : List Int) (m i : Nat) (a : Int)  (f n : Nat) :
  L f (n + 1) (mkS 17 [(3, .int .i64 a), (6, .ro (.ints .i64 xs) m 1), (7, .int .i64 m), (8, .int .i64 i)] [])
  = (bif decide ((↑i : Int) < (↑m : Int)) then bif true && (decide ((0 : Int) ≤ (↑i : Int)) && decide ((↑i : Int) < (↑m : Int))) then bif decide ((↑i : Int).toNat < xs.length) then L f n (mkS (17 : Nat) [((3 : Nat), AVal.int IntKind.i64 (IntKind.i64.wrap (a + gz xs (↑i : Int).toNat))), ((6 : Nat), AVal.ro (Cont.ints IntKind.i64 xs) m (1 : Nat)), ((7 : Nat), AVal.int IntKind.i64 (↑m : Int)), ((8 : Nat), AVal.int IntKind.i64 (IntKind.i64.wrap ((↑i : Int) + (1 : Int))))] []) else none else none else some (AVal.int IntKind.i64 a, [])) := by kernel_rfl
theorem loop (xs : List Int) (m : Nat)  (f : Nat) (hx : m ≤ xs.length) (hb : m ≤ 4611686018427387904) : ∀ (d i n : Nat) (a : Int), i + d = m → d < n →
    L f n (mkS 17 [(3, .int .i64 a), (6, .ro (.ints .i64 xs) m 1), (7, .int .i64 m), (8, .int .i64 i)] []) = some (AVal.int .i64 (((xs.take m).drop i).foldl (fun s x => IntKind.i64.wrap (s + x)) a), []) := by
  intro d
  induction d with
  | zero =>
    intro i n a hj hn
    obtain ⟨n, rfl⟩ : ∃ k, n = k + 1 := ⟨n - 1, by omega⟩
    obtain rfl : i = m := by omega
    rw [round]
    simp
  | succ d ih =>
    intro i n a hj hn
    obtain ⟨n, rfl⟩ : ∃ k, n = k + 1 := ⟨n - 1, by omega⟩
    have h1 : i < m := by omega
    have h2 : i < xs.length := by omega
    rw [round]
    have h4 : (0 : Int) ≤ (i : Int) := Int.natCast_nonneg _
    have h5 : (i : Int) < (m : Int) := by omega
    simp only [h4, h5, h2, decide_true, Bool.and_self, Bool.or_self, cond_true, Int.toNat_natCast, wrap_nat i (by omega), gz_eq h2]
    rw [drop_take_cons hx h1, List.foldl_cons]
    exact ih (i + 1) n _ (by omega) (by omega)
theorem run : ∀ args v new, R args = some (true, v, new) → ∃ fuel, runFn Try.prog (orc []) hd Dr.std none fuel (bodyOf Try.f55) 17 [2] args [] = some (v, new) := by
  intro args v new h
  unfold R at h
  split at h
  · rename_i xs m
    simp only [Option.some.injEq, Prod.mk.injEq, decide_eq_true_eq] at h
    obtain ⟨⟨h1, h3⟩, rfl, rfl⟩ := h
    refine ⟨m + 1, ?_⟩
    rw [start]
    exact loop xs m (m + 1) h1 h3 m 0 (m + 1) 0 (by omega) (by omega)
  · cases h
theorem ok : EntOk Try.prog ⟨55, R⟩ :=
  ent_ok (es := []) mixed (by simp) Try.func55 (by kernel_rfl) (by kernel_rfl) (n := 17) (ts := [2]) (hd := hd) (dr := Dr.std) (cut := none) (by kernel_rfl) (by kernel_rfl) (by kernel_rfl) run
end sumOf

namespace l07Sum
def R : List AVal → Option (Bool × AVal × List Blk)
  | [.ro (.ints .i64 xs) m 1] => some (decide (m ≤ xs.length ∧ m ≤ 4611686018427387904), .int .i64 (sumOf.sp (xs.take m)), [])
  | _ => none
def hd : Nat → Head := fun _ => ⟨[0, 3, 6, 7], none⟩
noncomputable def L (f n : Nat) (s : State) := loopAt Try.prog (orc []) hd Dr.std 0 f (bodyOf Try.f61) 0 [true, true, false, true] (retK Try.prog [2] 0 none) n s
theorem start (xs : List Int) (m : Nat)  (f : Nat) :
  runFn Try.prog (orc []) hd Dr.std none f (bodyOf Try.f61) 18 [2] [.ro (.ints .i64 xs) m 1] []
  = (L f f (mkS (18 : Nat) [((0 : Nat), AVal.ro (Cont.ints IntKind.i64 xs) m (1 : Nat)), ((3 : Nat), AVal.int IntKind.i64 (0 : Int)), ((6 : Nat), AVal.int IntKind.i64 (↑m : Int)), ((7 : Nat), AVal.int IntKind.i64 (0 : Int))] [])) := by kernel_rfl
theorem round (xs : List Int) (m i : Nat) (a : Int)  (f n : Nat) :
  L f (n + 1) (mkS 18 [(0, .ro (.ints .i64 xs) m 1), (3, .int .i64 a), (6, .int .i64 m), (7, .int .i64 i)] [])
  = (bif decide ((↑i : Int) < (↑m : Int)) then bif true && (decide ((0 : Int) ≤ (↑i : Int)) && decide ((↑i : Int) < (↑m : Int))) then bif decide ((↑i : Int).toNat < xs.length) then L f n (mkS (18 : Nat) [((0 : Nat), AVal.ro (Cont.ints IntKind.i64 xs) m (1 : Nat)), ((3 : Nat), AVal.int IntKind.i64 (IntKind.i64.wrap (a + gz xs (↑i : Int).toNat))), ((6 : Nat), AVal.int IntKind.i64 (↑m : Int)), ((7 : Nat), AVal.int IntKind.i64 (IntKind.i64.wrap ((↑i : Int) + (1 : Int))))] []) else none else none else some (AVal.int IntKind.i64 a, [])) := by kernel_rfl
theorem loop (xs : List Int) (m : Nat)  (f : Nat) (hx : m ≤ xs.length) (hb : m ≤ 4611686018427387904) : ∀ (d i n : Nat) (a : Int), i + d = m → d < n →
    L f n (mkS 18 [(0, .ro (.ints .i64 xs) m 1), (3, .int .i64 a), (6, .int .i64 m), (7, .int .i64 i)] []) = some (AVal.int .i64 (((xs.take m).drop i).foldl (fun s x => IntKind.i64.wrap (s + x)) a), []) := by
  intro d
  induction d with
  | zero =>
    intro i n a hj hn
    obtain ⟨n, rfl⟩ : ∃ k, n = k + 1 := ⟨n - 1, by omega⟩
    obtain rfl : i = m := by omega
    rw [round]
    simp
  | succ d ih =>
    intro i n a hj hn
    obtain ⟨n, rfl⟩ : ∃ k, n = k + 1 := ⟨n - 1, by omega⟩
    have h1 : i < m := by omega
    have h2 : i < xs.length := by omega
    rw [round]
    have h4 : (0 : Int) ≤ (i : Int) := Int.natCast_nonneg _
    have h5 : (i : Int) < (m : Int) := by omega
    simp only [h4, h5, h2, decide_true, Bool.and_self, Bool.or_self, cond_true, Int.toNat_natCast, wrap_nat i (by omega), gz_eq h2]
    rw [drop_take_cons hx h1, List.foldl_cons]
    exact ih (i + 1) n _ (by omega) (by omega)
theorem run : ∀ args v new, R args = some (true, v, new) → ∃ fuel, runFn Try.prog (orc []) hd Dr.std none fuel (bodyOf Try.f61) 18 [2] args [] = some (v, new) := by
  intro args v new h
  unfold R at h
  split at h
  · rename_i xs m
    simp only [Option.some.injEq, Prod.mk.injEq, decide_eq_true_eq] at h
    obtain ⟨⟨h1, h3⟩, rfl, rfl⟩ := h
    refine ⟨m + 1, ?_⟩
    rw [start]
    exact loop xs m (m + 1) h1 h3 m 0 (m + 1) 0 (by omega) (by omega)
  · cases h
theorem ok : EntOk Try.prog ⟨61, R⟩ :=
  ent_ok (es := []) mixed (by simp) Try.func61 (by kernel_rfl) (by kernel_rfl) (n := 18) (ts := [2]) (hd := hd) (dr := Dr.std) (cut := none) (by kernel_rfl) (by kernel_rfl) (by kernel_rfl) run
end l07Sum

namespace l07Claims
def sp (xs : List Int) (e : Int) : Bool := ((decide (1 ≤ xs.length) && decide (xs.length ≤ 8)) && xs.all fun x => decide (0 ≤ x) && decide (x ≤ 1000)) && (decide (0 ≤ e) && decide (e ≤ sumOf.sp xs))
def R : List AVal → Option (Bool × AVal × List Blk)
  | [.ro (.ints .i64 xs) m 1, .int .i64 e] => some (decide (m ≤ xs.length ∧ m ≤ 4611686018427387904), .bool (sp (xs.take m) e), [])
  | _ => none
def hd : Nat → Head := fun _ => ⟨[0, 1, 4, 15, 16], none⟩
noncomputable def L (f n : Nat) (s : State) := loopAt Try.prog (orc [⟨60, l00In.R⟩, ⟨61, l07Sum.R⟩]) hd Dr.std 0 f (bodyOf Try.f53) 0 [true, true, false, true] (retK Try.prog [4] 0 none) n s
theorem start (xs : List Int) (m : Nat) (e : Int) (f : Nat) :
  runFn Try.prog (orc [⟨60, l00In.R⟩, ⟨61, l07Sum.R⟩]) hd Dr.std none f (bodyOf Try.f53) 30 [4] [.ro (.ints .i64 xs) m 1, .int .i64 e] []
  = (bif decide ((↑m : Int) < (1 : Int)) then some (AVal.bool false, []) else bif decide ((8 : Int) < (↑m : Int)) then some (AVal.bool false, []) else L f f (mkS (30 : Nat) [((0 : Nat), AVal.ro (Cont.ints IntKind.i64 xs) m (1 : Nat)), ((1 : Nat), AVal.int IntKind.i64 e), ((4 : Nat), AVal.bool false), ((15 : Nat), AVal.int IntKind.i64 (↑m : Int)), ((16 : Nat), AVal.int IntKind.i64 (0 : Int))] [])) := by kernel_rfl
theorem round (xs : List Int) (m i : Nat) (e : Int) (f n : Nat) :
  L f (n + 1) (mkS 30 [(0, .ro (.ints .i64 xs) m 1), (1, .int .i64 e), (4, .bool false), (15, .int .i64 m), (16, .int .i64 i)] [])
  = (bif decide ((↑i : Int) < (↑m : Int)) then bif true && (decide ((0 : Int) ≤ (↑i : Int)) && decide ((↑i : Int) < (↑m : Int))) then bif decide ((↑i : Int).toNat < xs.length) then bif true && (true && true || true && true) then bif !(decide ((0 : Int) ≤ gz xs (↑i : Int).toNat) && decide (gz xs (↑i : Int).toNat ≤ (1000 : Int))) then some (AVal.bool false, []) else L f n (mkS (30 : Nat) [((0 : Nat), AVal.ro (Cont.ints IntKind.i64 xs) m (1 : Nat)), ((1 : Nat), AVal.int IntKind.i64 e), ((4 : Nat), AVal.bool false), ((15 : Nat), AVal.int IntKind.i64 (↑m : Int)), ((16 : Nat), AVal.int IntKind.i64 (IntKind.i64.wrap ((↑i : Int) + (1 : Int))))] []) else none else none else none else bif decide (m ≤ xs.length ∧ m ≤ (4611686018427387904 : Nat)) && (true && true || true && true) then bif true && (true && (true && (true && true)) || true && true) then some (AVal.bool (decide ((0 : Int) ≤ e) && decide (e ≤ sumOf.sp (List.take m xs))), []) else none else none) := by kernel_rfl
theorem loop (xs : List Int) (m : Nat) (e : Int) (f : Nat) (hx : m ≤ xs.length) (hb : m ≤ 4611686018427387904) : ∀ (d i n : Nat), i + d = m → d < n →
    L f n (mkS 30 [(0, .ro (.ints .i64 xs) m 1), (1, .int .i64 e), (4, .bool false), (15, .int .i64 m), (16, .int .i64 i)] []) = some (.bool ((((xs.take m).drop i).all fun x => decide (0 ≤ x) && decide (x ≤ 1000)) && (decide (0 ≤ e) && decide (e ≤ sumOf.sp (xs.take m)))), []) := by
  intro d
  induction d with
  | zero =>
    intro i n hj hn
    obtain ⟨n, rfl⟩ : ∃ k, n = k + 1 := ⟨n - 1, by omega⟩
    obtain rfl : i = m := by omega
    rw [round]
    simp [hx, hb]
  | succ d ih =>
    intro i n hj hn
    obtain ⟨n, rfl⟩ : ∃ k, n = k + 1 := ⟨n - 1, by omega⟩
    have h1 : i < m := by omega
    have h2 : i < xs.length := by omega
    rw [round]
    have h4 : (0 : Int) ≤ (i : Int) := Int.natCast_nonneg _
    have h5 : (i : Int) < (m : Int) := by omega
    simp only [h4, h5, h2, decide_true, Bool.and_self, Bool.or_self, cond_true, Int.toNat_natCast, wrap_nat i (by omega), gz_eq h2]
    rw [drop_take_cons hx h1, List.all_cons]
    have hih := ih (i + 1) n (by omega) (by omega)
    generalize hp : ((xs.take m).drop (i + 1)).all (fun x => decide (0 ≤ x) && decide (x ≤ 1000)) = rest at hih ⊢
    generalize xs[i] = x
    try simp only []
    generalize (decide (0 ≤ x) && decide (x ≤ 1000)) = b
    cases b
    · rfl
    · simp only [Bool.not_true, cond_false, Bool.true_and]
      exact hih
theorem run : ∀ args v new, R args = some (true, v, new) → ∃ fuel, runFn Try.prog (orc [⟨60, l00In.R⟩, ⟨61, l07Sum.R⟩]) hd Dr.std none fuel (bodyOf Try.f53) 30 [4] args [] = some (v, new) := by
  intro args v new h
  unfold R at h
  split at h
  · rename_i xs m e
    simp only [Option.some.injEq, Prod.mk.injEq, decide_eq_true_eq] at h
    obtain ⟨⟨h1, h3⟩, rfl, rfl⟩ := h
    refine ⟨m + 1, ?_⟩
    rw [start]
    have hl := loop xs m e (m + 1) h1 h3 m 0 (m + 1) (by omega) (by omega)
    have hlen : (xs.take m).length = m := by simp; omega
    simp only [sp, hlen]
    by_cases c1 : (m : Int) < 1
    · have : ¬ 1 ≤ m := by omega
      simp [c1, this]
    by_cases c2 : (8 : Int) < (m : Int)
    · have : ¬ m ≤ 8 := by omega
      simp [c1, c2, this]
    have d1 : 1 ≤ m := by omega
    have d2 : m ≤ 8 := by omega
    simp only [c1, c2, d1, d2, decide_true, decide_false, cond_false, Bool.and_self, Bool.true_and]
    exact hl
  · cases h
theorem ok : EntOk Try.prog ⟨53, R⟩ :=
  ent_ok (es := [⟨60, l00In.R⟩, ⟨61, l07Sum.R⟩]) mixed (by simp only [List.mem_cons, List.not_mem_nil, or_false, forall_eq_or_imp, forall_eq]; exact ⟨l00In.ok, l07Sum.ok⟩) Try.func53 (by kernel_rfl) (by kernel_rfl) (n := 30) (ts := [4]) (hd := hd) (dr := Dr.std) (cut := none) (by kernel_rfl) (by kernel_rfl) (by kernel_rfl) run
end l07Claims

namespace sAreClaims
def R : List AVal → Option (Bool × AVal × List Blk)
  | [.ro (.ints .i64 xs) m 1, .int .i64 e] => some (decide (m ≤ xs.length ∧ m ≤ 4611686018427387904), .bool (l07Claims.sp (xs.take m) e), [])
  | _ => none
theorem go (xs : List Int) (m : Nat) (e : Int) :
  runFn Try.prog (orc [⟨53, l07Claims.R⟩]) hd0 Dr.std none 0 (bodyOf Try.f18) 8 [4] [.ro (.ints .i64 xs) m 1, .int .i64 e] []
  = (bif decide (m ≤ xs.length ∧ m ≤ (4611686018427387904 : Nat)) && (true && (true && true) || true && true) then some (AVal.bool (l07Claims.sp (List.take m xs) e), []) else none) := by kernel_rfl
theorem run : ∀ args v new, R args = some (true, v, new) → ∃ fuel, runFn Try.prog (orc [⟨53, l07Claims.R⟩]) hd0 Dr.std none fuel (bodyOf Try.f18) 8 [4] args [] = some (v, new) := by
  intro args v new h
  unfold R at h
  split at h
  · simp only [Option.some.injEq, Prod.mk.injEq, decide_eq_true_eq] at h
    obtain ⟨⟨h1, h2⟩, rfl, rfl⟩ := h
    refine ⟨0, ?_⟩
    rw [go]
    simp only [h1, h2, and_self, decide_true, Bool.and_self, Bool.or_self, cond_true]
  · cases h
theorem ok : EntOk Try.prog ⟨18, R⟩ :=
  ent_ok (es := [⟨53, l07Claims.R⟩]) mixed (by simp only [List.mem_cons, List.not_mem_nil, or_false, forall_eq_or_imp, forall_eq]; exact l07Claims.ok) Try.func18 (by kernel_rfl) (by kernel_rfl) (n := 8) (ts := [4]) (hd := hd0) (dr := Dr.std) (cut := none) (by kernel_rfl) (by kernel_rfl) (by kernel_rfl) run
end sAreClaims

namespace iAreClaims
def R : List AVal → Option (Bool × AVal × List Blk)
  | [.ro (.ints .i64 xs) m 1, .int .i64 e] => some (decide (m ≤ xs.length ∧ m ≤ 4611686018427387904), .bool (l07Claims.sp (xs.take m) e), [])
  | _ => none
theorem go (xs : List Int) (m : Nat) (e : Int) :
  runFn Try.prog (orc [⟨52, areMany.R⟩, ⟨55, sumOf.R⟩, ⟨54, within.R⟩]) hd0 Dr.std none 0 (bodyOf Try.f19) 13 [4] [.ro (.ints .i64 xs) m 1, .int .i64 e] []
  = (bif decide (m ≤ xs.length ∧ m ≤ (4611686018427387904 : Nat)) && (true && true || true && true) then bif decide ((1 : Int) ≤ (↑m : Int)) && decide ((↑m : Int) ≤ (8 : Int)) && (List.take m xs).all fun x => decide ((0 : Int) ≤ x) && decide (x ≤ (1000 : Int)) then bif decide (m ≤ xs.length ∧ m ≤ (4611686018427387904 : Nat)) && (true && true || true && true) then bif true && (true && (true && (true && true)) || true && true) then some (AVal.bool (decide ((0 : Int) ≤ e) && decide (e ≤ sumOf.sp (List.take m xs))), []) else none else none else some (AVal.bool false, []) else none) := by kernel_rfl
theorem run : ∀ args v new, R args = some (true, v, new) → ∃ fuel, runFn Try.prog (orc [⟨52, areMany.R⟩, ⟨55, sumOf.R⟩, ⟨54, within.R⟩]) hd0 Dr.std none fuel (bodyOf Try.f19) 13 [4] args [] = some (v, new) := by
  intro args v new h
  unfold R at h
  split at h
  · rename_i xs m e
    simp only [Option.some.injEq, Prod.mk.injEq, decide_eq_true_eq] at h
    obtain ⟨⟨h1, h2⟩, rfl, rfl⟩ := h
    refine ⟨0, ?_⟩
    rw [go]
    have hlen : (xs.take m).length = m := by simp; omega
    have e1 : decide ((1 : Int) ≤ (m : Int)) = decide (1 ≤ m) := by congr 1; apply propext; omega
    have e2 : decide ((m : Int) ≤ 8) = decide (m ≤ 8) := by congr 1; apply propext; omega
    simp only [h1, h2, and_self, decide_true, Bool.and_self, Bool.or_self, cond_true, e1, e2, l07Claims.sp, hlen]
    exact bif_and _ _ _
  · cases h
theorem ok : EntOk Try.prog ⟨19, R⟩ :=
  ent_ok (es := [⟨52, areMany.R⟩, ⟨55, sumOf.R⟩, ⟨54, within.R⟩]) mixed (by simp only [List.mem_cons, List.not_mem_nil, or_false, forall_eq_or_imp, forall_eq]; exact ⟨areMany.ok, sumOf.ok, within.ok⟩) Try.func19 (by kernel_rfl) (by kernel_rfl) (n := 13) (ts := [4]) (hd := hd0) (dr := Dr.std) (cut := none) (by kernel_rfl) (by kernel_rfl) (by kernel_rfl) run
end iAreClaims

namespace FnExactAreClaims
def R : List AVal → Option (Bool × AVal × List Blk)
  | [.ro (.ints .i64 xs) m 1, .int .i64 e] => some (decide (m ≤ xs.length), .bool true, [])
  | _ => none
theorem go (xs : List Int) (m : Nat) (e : Int) :
  runFn Try.prog (orc [⟨15, toInt64S.R⟩, ⟨18, sAreClaims.R⟩, ⟨19, iAreClaims.R⟩, ⟨17, eqInt64S.R⟩]) hd0 Dr.std (some 0) 0 (bodyOf Try.f4) 28 [4] [.ro (.ints .i64 xs) m 1, .int .i64 e] []
  = (bif decide ((1048576 : Int) < (↑m : Int)) then some (AVal.bool true, []) else bif decide (m ≤ xs.length ∧ m ≤ (1048576 : Nat)) && (true && true || true && (true && true)) then bif decide (m ≤ (List.take m xs).length ∧ m ≤ (4611686018427387904 : Nat)) && (false && (true && true) || true && true) then bif decide (m ≤ xs.length ∧ m ≤ (1048576 : Nat)) && (true && true || true && (true && true)) then bif decide (m ≤ (List.take m xs).length ∧ m ≤ (4611686018427387904 : Nat)) && (false && (true && true) || true && true) then bif !l07Claims.sp (List.take m (List.take m xs)) e == l07Claims.sp (List.take m (List.take m xs)) e then some (AVal.bool false, []) else bif decide (m ≤ xs.length ∧ m ≤ (1048576 : Nat)) && (true && true || true && (true && true)) then bif decide (m ≤ (List.take m xs).length ∧ m ≤ (List.take m xs).length ∧ m ≤ (4611686018427387904 : Nat)) && (false && (false && true) || true && true) then bif !decide (List.take m (List.take m xs) = List.take m (List.take m xs)) then some (AVal.bool false, []) else some (AVal.bool true, []) else none else none else none else none else none else none) := by kernel_rfl
theorem run : ∀ args v new, R args = some (true, v, new) → ∃ fuel, runFn Try.prog (orc [⟨15, toInt64S.R⟩, ⟨18, sAreClaims.R⟩, ⟨19, iAreClaims.R⟩, ⟨17, eqInt64S.R⟩]) hd0 Dr.std (some 0) fuel (bodyOf Try.f4) 28 [4] args [] = some (v, new) := by
  intro args v new h
  unfold R at h
  split at h
  · rename_i xs m e
    simp only [Option.some.injEq, Prod.mk.injEq, decide_eq_true_eq] at h
    obtain ⟨h1, rfl, rfl⟩ := h
    refine ⟨0, ?_⟩
    rw [go]
    by_cases hm : (1048576 : Int) < (m : Int)
    · simp only [hm, decide_true, cond_true]
    · have hm' : m ≤ 1048576 := by omega
      have h2 : m ≤ 4611686018427387904 := by omega
      have hlen : m ≤ (xs.take m).length := by simp; omega
      simp only [hm, hm', h1, h2, hlen, and_self, decide_true, decide_false, Bool.and_self, Bool.or_self, Bool.or_true, Bool.and_true, Bool.true_and, cond_true, cond_false, beq_self_eq_true, Bool.not_true]
  · cases h
theorem ok : EntOk Try.prog ⟨4, R⟩ :=
  ent_ok (es := [⟨15, toInt64S.R⟩, ⟨18, sAreClaims.R⟩, ⟨19, iAreClaims.R⟩, ⟨17, eqInt64S.R⟩]) mixed (by simp only [List.mem_cons, List.not_mem_nil, or_false, forall_eq_or_imp, forall_eq]; exact ⟨toInt64S.ok, sAreClaims.ok, iAreClaims.ok, eqInt64S.ok⟩) Try.func4 (by kernel_rfl) (by kernel_rfl) (n := 28) (ts := [4]) (hd := hd0) (dr := Dr.std) (cut := some 0) (by kernel_rfl) (by kernel_rfl) (by kernel_rfl) run
end FnExactAreClaims

end Go.Proofs.Ytmaegbgkpjbohaa.Ab
