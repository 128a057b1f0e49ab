/-
  Functions: two sorted halves are merged in place.
-/
import Derived.Test.YtadpndpbooofiaaFnTC
import Derived.Test.YtadpndpbooofiaaFnTD
namespace Go.Proofs.Ytadpndpbooofiaa.Ab
open Go
set_option linter.unusedVariables false
set_option linter.unusedSimpArgs false
set_option maxRecDepth 100000

theorem bif2 {α : Type} (x y : Bool) (A B : α) : (bif x then (bif y then A else B) else B) = bif (x && y) then A else B := by cases x <;> rfl
namespace sy
theorem loop0 (ts os : List Int) (m k a N f : Nat) (hm : os.length = m) (hm2 : m ≤ 1000) (hk : k ≤ ts.length) (hin : ss.inr k os) (ha : a < m) : ∀ (d i j n : Nat), i ≤ j → j ≤ m → j - i ≤ d → d < n →
    L0 N f n (mkS 220 [(0, .own 0 0 m 0 1), (1, .int .i64 (a : Int)), (4, .fn 38 [.ptr 1 0 0]), (10, .int .i64 (i : Int)), (11, .int .i64 (j : Int))] [⟨.typ (.ints .i64 os), 0⟩, ⟨.cells [.ro (.ints .i64 ts) k 1], 0⟩]) = L2 N f f (mkS 220 [(0, .own 0 0 m 0 1), (10, .int .i64 ((ss.bs.sv (fun h => ss.lt.sp ts (gz os h) (gz os a)) d i j : Nat) : Int)), (13, .int .i64 (a : Int))] [⟨.typ (.ints .i64 os), 0⟩, ⟨.cells [.ro (.ints .i64 ts) k 1], 0⟩]) := by
  intro d
  induction d with
  | zero =>
    intro i j n hij hj hd hn
    obtain ⟨n, rfl⟩ : ∃ k, n = k + 1 := ⟨n - 1, by omega⟩
    obtain rfl : i = j := by omega
    rw [round0 (q := 0) (b := 0) (mid := 0) (w := 0) (p := 0) (h := 0)]
    simp -implicitDefEqProofs only [ss.bs.sv, Int.lt_irrefl, decide_true, decide_false, Bool.and_self, Bool.or_self, Bool.and_true, Bool.true_and, Bool.and_false, Bool.false_and, Bool.or_true, Bool.true_or, Bool.or_false, Bool.false_or, Bool.not_true, Bool.not_false, cond_true, cond_false]
  | succ d ih =>
    intro i j n hij hj hd hn
    obtain ⟨n, rfl⟩ : ∃ k, n = k + 1 := ⟨n - 1, by omega⟩
    by_cases c : i < j
    · have c2 : (i : Int) < (j : Int) := by omega
      have hh := ss.half i j (by omega)
      have hq1 : i ≤ (i + j) / 2 ∧ (i + j) / 2 < j := by omega
      generalize hq : (i + j) / 2 = x at hh hq1
      have wx : IntKind.i64.wrap ((x : Int) + 1) = ((x + 1 : Nat) : Int) := wrap_nat x (by omega)
      have x1 : (0 : Int) ≤ (x : Int) := Int.natCast_nonneg _
      have x2 : (x : Int) < (m : Int) := by omega
      have x3 : x < os.length := by omega
      obtain ⟨x4, x5⟩ := ss.inr_gz hin x3
      have ih1 := ih (x + 1) j n (by omega) (by omega) (by omega) (by omega)
      have ih2 := ih i x n (by omega) (by omega) (by omega) (by omega)
      rw [round0 (q := 0) (b := 0) (mid := 0) (w := 0) (p := 0) (h := 0)]
      simp only [ss.bs.sv, hq]
      have a1 : (0 : Int) ≤ (a : Int) := Int.natCast_nonneg _
      have a2 : (a : Int) < (m : Int) := by omega
      have a3 : a < os.length := by omega
      obtain ⟨a4, a5⟩ := ss.inr_gz hin a3
      simp -implicitDefEqProofs only [c, c2, hh, wx, x1, x2, x3, x4, x5, a1, a2, a3, a4, a5, hk, ss.cmp_lt, Int.toNat_natCast, and_self, decide_true, decide_false, Bool.and_self, Bool.or_self, Bool.and_true, Bool.true_and, Bool.and_false, Bool.false_and, Bool.or_true, Bool.true_or, Bool.or_false, Bool.false_or, Bool.not_true, Bool.not_false, cond_true, cond_false]
      cases ss.lt.sp ts (gz os x) (gz os a)
      · simp -implicitDefEqProofs only [decide_true, decide_false, Bool.and_self, Bool.or_self, Bool.and_true, Bool.true_and, Bool.and_false, Bool.false_and, Bool.or_true, Bool.true_or, Bool.or_false, Bool.false_or, Bool.not_true, Bool.not_false, cond_true, cond_false]
        exact ih2
      · simp -implicitDefEqProofs only [decide_true, decide_false, Bool.and_self, Bool.or_self, Bool.and_true, Bool.true_and, Bool.and_false, Bool.false_and, Bool.or_true, Bool.true_or, Bool.or_false, Bool.false_or, Bool.not_true, Bool.not_false, cond_true, cond_false]
        exact ih1
    · have c2 : ¬ ((i : Int) < (j : Int)) := by omega
      rw [round0 (q := 0) (b := 0) (mid := 0) (w := 0) (p := 0) (h := 0)]
      simp -implicitDefEqProofs only [ss.bs.sv, c, c2, decide_true, decide_false, Bool.and_self, Bool.or_self, Bool.and_true, Bool.true_and, Bool.and_false, Bool.false_and, Bool.or_true, Bool.true_or, Bool.or_false, Bool.false_or, Bool.not_true, Bool.not_false, cond_true, cond_false]
theorem loop4 (ts os : List Int) (m k q N f : Nat) (hm : os.length = m) (hm2 : m ≤ 1000) (hk : k ≤ ts.length) (hin : ss.inr k os) (ha : q < m) : ∀ (d i j n : Nat), i ≤ j → j ≤ m → j - i ≤ d → d < n →
    L4 N f n (mkS 220 [(0, .own 0 0 m 0 1), (2, .int .i64 (q : Int)), (4, .fn 38 [.ptr 1 0 0]), (14, .int .i64 (i : Int)), (15, .int .i64 (j : Int))] [⟨.typ (.ints .i64 os), 0⟩, ⟨.cells [.ro (.ints .i64 ts) k 1], 0⟩]) = L6 N f f (mkS 220 [(0, .own 0 0 m 0 1), (14, .int .i64 ((ss.bs.sv (fun h => !ss.lt.sp ts (gz os q) (gz os h)) d i j : Nat) : Int)), (17, .int .i64 (q : Int))] [⟨.typ (.ints .i64 os), 0⟩, ⟨.cells [.ro (.ints .i64 ts) k 1], 0⟩]) := by
  intro d
  induction d with
  | zero =>
    intro i j n hij hj hd hn
    obtain ⟨n, rfl⟩ : ∃ k, n = k + 1 := ⟨n - 1, by omega⟩
    obtain rfl : i = j := by omega
    rw [round4 (a := 0) (b := 0) (mid := 0) (w := 0) (p := 0) (h := 0)]
    simp -implicitDefEqProofs only [ss.bs.sv, Int.lt_irrefl, decide_true, decide_false, Bool.and_self, Bool.or_self, Bool.and_true, Bool.true_and, Bool.and_false, Bool.false_and, Bool.or_true, Bool.true_or, Bool.or_false, Bool.false_or, Bool.not_true, Bool.not_false, cond_true, cond_false]
  | succ d ih =>
    intro i j n hij hj hd hn
    obtain ⟨n, rfl⟩ : ∃ k, n = k + 1 := ⟨n - 1, by omega⟩
    by_cases c : i < j
    · have c2 : (i : Int) < (j : Int) := by omega
      have hh := ss.half i j (by omega)
      have hq1 : i ≤ (i + j) / 2 ∧ (i + j) / 2 < j := by omega
      generalize hq : (i + j) / 2 = x at hh hq1
      have wx : IntKind.i64.wrap ((x : Int) + 1) = ((x + 1 : Nat) : Int) := wrap_nat x (by omega)
      have x1 : (0 : Int) ≤ (x : Int) := Int.natCast_nonneg _
      have x2 : (x : Int) < (m : Int) := by omega
      have x3 : x < os.length := by omega
      obtain ⟨x4, x5⟩ := ss.inr_gz hin x3
      have ih1 := ih (x + 1) j n (by omega) (by omega) (by omega) (by omega)
      have ih2 := ih i x n (by omega) (by omega) (by omega) (by omega)
      rw [round4 (a := 0) (b := 0) (mid := 0) (w := 0) (p := 0) (h := 0)]
      simp only [ss.bs.sv, hq]
      have a1 : (0 : Int) ≤ (q : Int) := Int.natCast_nonneg _
      have a2 : (q : Int) < (m : Int) := by omega
      have a3 : q < os.length := by omega
      obtain ⟨a4, a5⟩ := ss.inr_gz hin a3
      simp -implicitDefEqProofs only [c, c2, hh, wx, x1, x2, x3, x4, x5, a1, a2, a3, a4, a5, hk, ss.cmp_lt, Int.toNat_natCast, and_self, decide_true, decide_false, Bool.and_self, Bool.or_self, Bool.and_true, Bool.true_and, Bool.and_false, Bool.false_and, Bool.or_true, Bool.true_or, Bool.or_false, Bool.false_or, Bool.not_true, Bool.not_false, cond_true, cond_false]
      cases ss.lt.sp ts (gz os q) (gz os x)
      · simp -implicitDefEqProofs only [decide_true, decide_false, Bool.and_self, Bool.or_self, Bool.and_true, Bool.true_and, Bool.and_false, Bool.false_and, Bool.or_true, Bool.true_or, Bool.or_false, Bool.false_or, Bool.not_true, Bool.not_false, cond_true, cond_false]
        exact ih1
      · simp -implicitDefEqProofs only [decide_true, decide_false, Bool.and_self, Bool.or_self, Bool.and_true, Bool.true_and, Bool.and_false, Bool.false_and, Bool.or_true, Bool.true_or, Bool.or_false, Bool.false_or, Bool.not_true, Bool.not_false, cond_true, cond_false]
        exact ih2
    · have c2 : ¬ ((i : Int) < (j : Int)) := by omega
      rw [round4 (a := 0) (b := 0) (mid := 0) (w := 0) (p := 0) (h := 0)]
      simp -implicitDefEqProofs only [ss.bs.sv, c, c2, decide_true, decide_false, Bool.and_self, Bool.or_self, Bool.and_true, Bool.true_and, Bool.and_false, Bool.false_and, Bool.or_true, Bool.true_or, Bool.or_false, Bool.false_or, Bool.not_true, Bool.not_false, cond_true, cond_false]
theorem loop8 (ts os : List Int) (m k a q b mid w N f : Nat) (hm : os.length = m) (hm2 : m ≤ 1000) (hk : k ≤ ts.length) (hin : ss.inr k os)  : ∀ (d i j n : Nat), i ≤ j → j ≤ m → (∀ h, i ≤ h → h < j → 1 ≤ w ∧ h ≤ w - 1 ∧ w - 1 - h < m) → j - i ≤ d → d < n →
    ∃ n2, L8 N f n (mkS 220 [(0, .own 0 0 m 0 1), (1, .int .i64 (a : Int)), (2, .int .i64 (q : Int)), (3, .int .i64 (b : Int)), (4, .fn 38 [.ptr 1 0 0]), (18, .int .i64 (mid : Int)), (19, .int .i64 (w : Int)), (20, .int .i64 (i : Int)), (21, .int .i64 (j : Int)), (22, .int .i64 ((w - 1 : Nat) : Int))] [⟨.typ (.ints .i64 os), 0⟩, ⟨.cells [.ro (.ints .i64 ts) k 1], 0⟩]) = L8 N f (n2 + 1) (mkS 220 [(0, .own 0 0 m 0 1), (1, .int .i64 (a : Int)), (2, .int .i64 (q : Int)), (3, .int .i64 (b : Int)), (4, .fn 38 [.ptr 1 0 0]), (18, .int .i64 (mid : Int)), (19, .int .i64 (w : Int)), (20, .int .i64 ((ss.bs.sv (fun c => !ss.lt.sp ts (gz os (w - 1 - c)) (gz os c)) d i j : Nat) : Int)), (21, .int .i64 ((ss.bs.sv (fun c => !ss.lt.sp ts (gz os (w - 1 - c)) (gz os c)) d i j : Nat) : Int)), (22, .int .i64 ((w - 1 : Nat) : Int))] [⟨.typ (.ints .i64 os), 0⟩, ⟨.cells [.ro (.ints .i64 ts) k 1], 0⟩]) := by
  intro d
  induction d with
  | zero =>
    intro i j n hij hj hw hd hn
    obtain ⟨n, rfl⟩ : ∃ k, n = k + 1 := ⟨n - 1, by omega⟩
    obtain rfl : i = j := by omega
    exact ⟨n, rfl⟩
  | succ d ih =>
    intro i j n hij hj hw hd hn
    obtain ⟨n, rfl⟩ : ∃ k, n = k + 1 := ⟨n - 1, by omega⟩
    by_cases c : i < j
    · have c2 : (i : Int) < (j : Int) := by omega
      have hh := ss.half i j (by omega)
      have hq1 : i ≤ (i + j) / 2 ∧ (i + j) / 2 < j := by omega
      generalize hq : (i + j) / 2 = x at hh hq1
      have wx : IntKind.i64.wrap ((x : Int) + 1) = ((x + 1 : Nat) : Int) := wrap_nat x (by omega)
      have x1 : (0 : Int) ≤ (x : Int) := Int.natCast_nonneg _
      have x2 : (x : Int) < (m : Int) := by omega
      have x3 : x < os.length := by omega
      obtain ⟨x4, x5⟩ := ss.inr_gz hin x3
      have ih1 := ih (x + 1) j n (by omega) (by omega) (fun h p1 p2 => hw h (by omega) p2) (by omega) (by omega)
      have ih2 := ih i x n (by omega) (by omega) (fun h p1 p2 => hw h p1 (by omega)) (by omega) (by omega)
      simp only [ss.bs.sv, hq]
      rw [round8 (h := 0)]
      have hw1 := hw x (by omega) (by omega)
      have wp : IntKind.i64.wrap (((w - 1 : Nat) : Int) - (x : Int)) = ((w - 1 - x : Nat) : Int) := by rw [IntWalk.i64_in _ (by omega)]; omega
      have a1 : (0 : Int) ≤ ((w - 1 - x : Nat) : Int) := Int.natCast_nonneg _
      have a2 : ((w - 1 - x : Nat) : Int) < (m : Int) := by omega
      have a3 : w - 1 - x < os.length := by omega
      obtain ⟨a4, a5⟩ := ss.inr_gz hin a3
      simp -implicitDefEqProofs only [c, c2, hh, wx, wp, x1, x2, x3, x4, x5, a1, a2, a3, a4, a5, hk, ss.cmp_lt, Int.toNat_natCast, and_self, decide_true, decide_false, Bool.and_self, Bool.or_self, Bool.and_true, Bool.true_and, Bool.and_false, Bool.false_and, Bool.or_true, Bool.true_or, Bool.or_false, Bool.false_or, Bool.not_true, Bool.not_false, cond_true, cond_false]
      cases ss.lt.sp ts (gz os (w - 1 - x)) (gz os x)
      · simp -implicitDefEqProofs only [decide_true, decide_false, Bool.and_self, Bool.or_self, Bool.and_true, Bool.true_and, Bool.and_false, Bool.false_and, Bool.or_true, Bool.true_or, Bool.or_false, Bool.false_or, Bool.not_true, Bool.not_false, cond_true, cond_false]
        exact ih1
      · simp -implicitDefEqProofs only [decide_true, decide_false, Bool.and_self, Bool.or_self, Bool.and_true, Bool.true_and, Bool.and_false, Bool.false_and, Bool.or_true, Bool.true_or, Bool.or_false, Bool.false_or, Bool.not_true, Bool.not_false, cond_true, cond_false]
        exact ih2
    · obtain rfl : i = j := by omega
      refine ⟨n, ?_⟩
      simp only [ss.bs.sv, Nat.lt_irrefl, decide_false, cond_false]
theorem loop2 (ts : List Int) (m k i N f : Nat) (hm2 : m ≤ 1000) (hi : i ≤ m) : ∀ (d h n : Nat) (os : List Int), os.length = m → h + d + 1 = i → d < n →
    L2 N f n (mkS 220 [(0, .own 0 0 m 0 1), (10, .int .i64 (i : Int)), (13, .int .i64 (h : Int))] [⟨.typ (.ints .i64 os), 0⟩, ⟨.cells [.ro (.ints .i64 ts) k 1], 0⟩]) = some (.tup [], [⟨.typ (.ints .i64 (ss.mv.sv d h os)), 0⟩, ⟨.cells [.ro (.ints .i64 ts) k 1], 0⟩]) := by
  have wi : IntKind.i64.wrap ((i : Int) - 1) = (i : Int) - 1 := IntWalk.i64_in _ (by omega)
  intro d
  induction d with
  | zero =>
    intro h n os hm hd hn
    obtain ⟨n, rfl⟩ : ∃ k, n = k + 1 := ⟨n - 1, by omega⟩
    have c : ¬ ((h : Int) < (i : Int) - 1) := by omega
    rw [round2 (a := 0) (q := 0) (b := 0) (mid := 0) (w := 0) (j := 0) (p := 0)]
    simp -implicitDefEqProofs only [c, wi, ss.mv.sv, decide_true, decide_false, Bool.and_self, Bool.or_self, Bool.and_true, Bool.true_and, Bool.and_false, Bool.false_and, Bool.or_true, Bool.true_or, Bool.or_false, Bool.false_or, Bool.not_true, Bool.not_false, cond_true, cond_false]
  | succ d ih =>
    intro h n os hm hd hn
    obtain ⟨n, rfl⟩ : ∃ k, n = k + 1 := ⟨n - 1, by omega⟩
    have c : (h : Int) < (i : Int) - 1 := by omega
    have wh : IntKind.i64.wrap ((h : Int) + 1) = ((h + 1 : Nat) : Int) := wrap_nat h (by omega)
    have x1 : (0 : Int) ≤ (h : Int) := Int.natCast_nonneg _
    have x2 : (h : Int) < (m : Int) := by omega
    have x3 : h < os.length := by omega
    have y1 : (0 : Int) ≤ ((h + 1 : Nat) : Int) := Int.natCast_nonneg _
    have y2 : ((h + 1 : Nat) : Int) < (m : Int) := by omega
    have y3 : h + 1 < os.length := by omega
    have hih := ih (h + 1) n ((os.set h (gz os (h + 1))).set (h + 1) (gz os h)) (by simp; exact hm) (by omega) (by omega)
    rw [round2 (a := 0) (q := 0) (b := 0) (mid := 0) (w := 0) (j := 0) (p := 0)]
    simp -implicitDefEqProofs only [c, wi, wh, x1, x2, x3, y1, y2, y3, ss.mv.sv, Int.toNat_natCast, List.length_set, and_self, decide_true, decide_false, Bool.and_self, Bool.or_self, Bool.and_true, Bool.true_and, Bool.and_false, Bool.false_and, Bool.or_true, Bool.true_or, Bool.or_false, Bool.false_or, Bool.not_true, Bool.not_false, cond_true, cond_false]
    exact hih
theorem loop6 (ts : List Int) (m k i N f : Nat) (hm2 : m ≤ 1000) : ∀ (d n : Nat) (os : List Int), os.length = m → i + d < m → d < n →
    L6 N f n (mkS 220 [(0, .own 0 0 m 0 1), (14, .int .i64 (i : Int)), (17, .int .i64 ((i + d : Nat) : Int))] [⟨.typ (.ints .i64 os), 0⟩, ⟨.cells [.ro (.ints .i64 ts) k 1], 0⟩]) = some (.tup [], [⟨.typ (.ints .i64 (ss.mvd.sv i d os)), 0⟩, ⟨.cells [.ro (.ints .i64 ts) k 1], 0⟩]) := by
  intro d
  induction d with
  | zero =>
    intro n os hm hd hn
    obtain ⟨n, rfl⟩ : ∃ k, n = k + 1 := ⟨n - 1, by omega⟩
    have c : ¬ ((i : Int) < ((i + 0 : Nat) : Int)) := by omega
    rw [round6 (a := 0) (q := 0) (b := 0) (mid := 0) (w := 0) (j := 0) (p := 0)]
    simp -implicitDefEqProofs only [c, ss.mvd.sv, decide_true, decide_false, Bool.and_self, Bool.or_self, Bool.and_true, Bool.true_and, Bool.and_false, Bool.false_and, Bool.or_true, Bool.true_or, Bool.or_false, Bool.false_or, Bool.not_true, Bool.not_false, cond_true, cond_false]
  | succ d ih =>
    intro n os hm hd hn
    obtain ⟨n, rfl⟩ : ∃ k, n = k + 1 := ⟨n - 1, by omega⟩
    have ex : i + (d + 1) = i + d + 1 := rfl
    rw [ex] at hd ⊢
    have c : (i : Int) < ((i + d + 1 : Nat) : Int) := by omega
    have wh : IntKind.i64.wrap (((i + d + 1 : Nat) : Int) - 1) = ((i + d : Nat) : Int) := by rw [IntWalk.i64_in _ (by omega)]; omega
    have x1 : (0 : Int) ≤ ((i + d : Nat) : Int) := Int.natCast_nonneg _
    have x2 : ((i + d : Nat) : Int) < (m : Int) := by omega
    have x3 : i + d < os.length := by omega
    have y1 : (0 : Int) ≤ ((i + d + 1 : Nat) : Int) := Int.natCast_nonneg _
    have y2 : ((i + d + 1 : Nat) : Int) < (m : Int) := by omega
    have y3 : i + d + 1 < os.length := by omega
    have hih := ih n ((os.set (i + d + 1) (gz os (i + d))).set (i + d) (gz os (i + d + 1))) (by simp; exact hm) (by omega) (by omega)
    rw [round6 (a := 0) (q := 0) (b := 0) (mid := 0) (w := 0) (j := 0) (p := 0)]
    simp -implicitDefEqProofs only [c, wh, x1, x2, x3, y1, y2, y3, ss.mvd.sv, Int.toNat_natCast, List.length_set, and_self, decide_true, decide_false, Bool.and_self, Bool.or_self, Bool.and_true, Bool.true_and, Bool.and_false, Bool.false_and, Bool.or_true, Bool.true_or, Bool.or_false, Bool.false_or, Bool.not_true, Bool.not_false, cond_true, cond_false]
    exact hih
theorem exit8 (ts os O1 O2 O3 : List Int) (m k a q b mid s N f n : Nat) (hm : os.length = m) (hm2 : m ≤ 1000) (hk : k ≤ ts.length) (hl1 : O1.length = m) (hl2 : O2.length = m) (hb : b ≤ m) (ha : a ≤ mid) (hmb : mid ≤ b) (hN1 : (mid : Int) - (a : Int) ≤ (N : Int)) (hN2 : (b : Int) - (mid : Int) ≤ (N : Int)) (hsq : s ≤ q) (hsb : mid + q - s ≤ b) (hsm : s ≤ mid)
    (A1 : s < q → q < mid + q - s → ss.rot.sv (mid + q - s - s) (q - s) (mid + q - s - q) q os = O1) (A2 : ¬ (s < q ∧ q < mid + q - s) → os = O1) (B1 : a < s → s < mid → ss.okM.sp ts k a s mid O1 = true ∧ ss.out.sv ts a mid O1 = O2) (B2 : ¬ (a < s ∧ s < mid) → O1 = O2) (C1 : mid < mid + q - s → mid + q - s < b → ss.okM.sp ts k mid (mid + q - s) b O2 = true ∧ ss.out.sv ts mid b O2 = O3) (C2 : ¬ (mid < mid + q - s ∧ mid + q - s < b) → O2 = O3) :
    L8 N f (n + 1) (mkS 220 [(0, .own 0 0 m 0 1), (1, .int .i64 (a : Int)), (2, .int .i64 (q : Int)), (3, .int .i64 (b : Int)), (4, .fn 38 [.ptr 1 0 0]), (18, .int .i64 (mid : Int)), (19, .int .i64 ((mid + q : Nat) : Int)), (20, .int .i64 (s : Int)), (21, .int .i64 (s : Int)), (22, .int .i64 ((mid + q - 1 : Nat) : Int))] [⟨.typ (.ints .i64 os), 0⟩, ⟨.cells [.ro (.ints .i64 ts) k 1], 0⟩]) = some (.tup [], [⟨.typ (.ints .i64 O3), 0⟩, ⟨.cells [.ro (.ints .i64 ts) k 1], 0⟩]) := by
  have wi : IntKind.i64.wrap (((mid + q : Nat) : Int) - (s : Int)) = ((mid + q - s : Nat) : Int) := by rw [IntWalk.i64_in _ (by omega)]; omega
  have hb1 : mid ≤ m := by omega
  have hb2 : b ≤ m := hb
  have hb3 : mid + q - s ≤ m := by omega
  have hb4 : s ≤ m := by omega
  rw [round8 (h := 0)]
  simp -implicitDefEqProofs only [Int.lt_irrefl, wi, Int.toNat_natCast, Int.ofNat_lt, Int.ofNat_le, bif2, Int.natCast_nonneg, eq_self, decide_true, decide_false, Bool.and_self, Bool.or_self, Bool.and_true, Bool.true_and, Bool.and_false, Bool.false_and, Bool.or_true, Bool.true_or, Bool.or_false, Bool.false_or, Bool.not_true, Bool.not_false, cond_true, cond_false]
  rcases Decidable.em (s < q ∧ q < mid + q - s) with g1 | g1
  · simp -implicitDefEqProofs only [g1.1, g1.2, A1 g1.1 g1.2, hm, hl1, hl2, hm2, hk, hN1, hN2, hb1, hb2, hb3, hb4, Int.natCast_nonneg, and_self, eq_self, decide_true, decide_false, Bool.and_self, Bool.or_self, Bool.and_true, Bool.true_and, Bool.and_false, Bool.false_and, Bool.or_true, Bool.true_or, Bool.or_false, Bool.false_or, Bool.not_true, Bool.not_false, cond_true, cond_false]
    rcases Decidable.em (a < s ∧ s < mid) with g2 | g2
    · obtain ⟨k2, v2⟩ := B1 g2.1 g2.2
      simp -implicitDefEqProofs only [g2.1, g2.2, k2, v2, hm, hl1, hl2, hm2, hk, hN1, hN2, hb1, hb2, hb3, hb4, Int.natCast_nonneg, and_self, eq_self, decide_true, decide_false, Bool.and_self, Bool.or_self, Bool.and_true, Bool.true_and, Bool.and_false, Bool.false_and, Bool.or_true, Bool.true_or, Bool.or_false, Bool.false_or, Bool.not_true, Bool.not_false, cond_true, cond_false]
      rcases Decidable.em (mid < mid + q - s ∧ mid + q - s < b) with g3 | g3
      · obtain ⟨k3, v3⟩ := C1 g3.1 g3.2
        simp -implicitDefEqProofs only [g3.1, g3.2, k3, v3, hm, hl1, hl2, hm2, hk, hN1, hN2, hb1, hb2, hb3, hb4, Int.natCast_nonneg, and_self, eq_self, decide_true, decide_false, Bool.and_self, Bool.or_self, Bool.and_true, Bool.true_and, Bool.and_false, Bool.false_and, Bool.or_true, Bool.true_or, Bool.or_false, Bool.false_or, Bool.not_true, Bool.not_false, cond_true, cond_false]
      · have gb : (decide (mid < mid + q - s) && decide (mid + q - s < b)) = false := by rw [← Bool.decide_and]; exact decide_eq_false g3
        simp -implicitDefEqProofs only [gb, C2 g3, decide_true, decide_false, Bool.and_self, Bool.or_self, Bool.and_true, Bool.true_and, Bool.and_false, Bool.false_and, Bool.or_true, Bool.true_or, Bool.or_false, Bool.false_or, Bool.not_true, Bool.not_false, cond_true, cond_false]
    · have gb : (decide (a < s) && decide (s < mid)) = false := by rw [← Bool.decide_and]; exact decide_eq_false g2
      simp -implicitDefEqProofs only [gb, B2 g2, decide_true, decide_false, Bool.and_self, Bool.or_self, Bool.and_true, Bool.true_and, Bool.and_false, Bool.false_and, Bool.or_true, Bool.true_or, Bool.or_false, Bool.false_or, Bool.not_true, Bool.not_false, cond_true, cond_false]
      rcases Decidable.em (mid < mid + q - s ∧ mid + q - s < b) with g3 | g3
      · obtain ⟨k3, v3⟩ := C1 g3.1 g3.2
        simp -implicitDefEqProofs only [g3.1, g3.2, k3, v3, hm, hl1, hl2, hm2, hk, hN1, hN2, hb1, hb2, hb3, hb4, Int.natCast_nonneg, and_self, eq_self, decide_true, decide_false, Bool.and_self, Bool.or_self, Bool.and_true, Bool.true_and, Bool.and_false, Bool.false_and, Bool.or_true, Bool.true_or, Bool.or_false, Bool.false_or, Bool.not_true, Bool.not_false, cond_true, cond_false]
      · have gb : (decide (mid < mid + q - s) && decide (mid + q - s < b)) = false := by rw [← Bool.decide_and]; exact decide_eq_false g3
        simp -implicitDefEqProofs only [gb, C2 g3, decide_true, decide_false, Bool.and_self, Bool.or_self, Bool.and_true, Bool.true_and, Bool.and_false, Bool.false_and, Bool.or_true, Bool.true_or, Bool.or_false, Bool.false_or, Bool.not_true, Bool.not_false, cond_true, cond_false]
  · have gb : (decide (s < q) && decide (q < mid + q - s)) = false := by rw [← Bool.decide_and]; exact decide_eq_false g1
    simp -implicitDefEqProofs only [gb, A2 g1, decide_true, decide_false, Bool.and_self, Bool.or_self, Bool.and_true, Bool.true_and, Bool.and_false, Bool.false_and, Bool.or_true, Bool.true_or, Bool.or_false, Bool.false_or, Bool.not_true, Bool.not_false, cond_true, cond_false]
    rcases Decidable.em (a < s ∧ s < mid) with g2 | g2
    · obtain ⟨k2, v2⟩ := B1 g2.1 g2.2
      simp -implicitDefEqProofs only [g2.1, g2.2, k2, v2, hm, hl1, hl2, hm2, hk, hN1, hN2, hb1, hb2, hb3, hb4, Int.natCast_nonneg, and_self, eq_self, decide_true, decide_false, Bool.and_self, Bool.or_self, Bool.and_true, Bool.true_and, Bool.and_false, Bool.false_and, Bool.or_true, Bool.true_or, Bool.or_false, Bool.false_or, Bool.not_true, Bool.not_false, cond_true, cond_false]
      rcases Decidable.em (mid < mid + q - s ∧ mid + q - s < b) with g3 | g3
      · obtain ⟨k3, v3⟩ := C1 g3.1 g3.2
        simp -implicitDefEqProofs only [g3.1, g3.2, k3, v3, hm, hl1, hl2, hm2, hk, hN1, hN2, hb1, hb2, hb3, hb4, Int.natCast_nonneg, and_self, eq_self, decide_true, decide_false, Bool.and_self, Bool.or_self, Bool.and_true, Bool.true_and, Bool.and_false, Bool.false_and, Bool.or_true, Bool.true_or, Bool.or_false, Bool.false_or, Bool.not_true, Bool.not_false, cond_true, cond_false]
      · have gb : (decide (mid < mid + q - s) && decide (mid + q - s < b)) = false := by rw [← Bool.decide_and]; exact decide_eq_false g3
        simp -implicitDefEqProofs only [gb, C2 g3, decide_true, decide_false, Bool.and_self, Bool.or_self, Bool.and_true, Bool.true_and, Bool.and_false, Bool.false_and, Bool.or_true, Bool.true_or, Bool.or_false, Bool.false_or, Bool.not_true, Bool.not_false, cond_true, cond_false]
    · have gb : (decide (a < s) && decide (s < mid)) = false := by rw [← Bool.decide_and]; exact decide_eq_false g2
      simp -implicitDefEqProofs only [gb, B2 g2, decide_true, decide_false, Bool.and_self, Bool.or_self, Bool.and_true, Bool.true_and, Bool.and_false, Bool.false_and, Bool.or_true, Bool.true_or, Bool.or_false, Bool.false_or, Bool.not_true, Bool.not_false, cond_true, cond_false]
      rcases Decidable.em (mid < mid + q - s ∧ mid + q - s < b) with g3 | g3
      · obtain ⟨k3, v3⟩ := C1 g3.1 g3.2
        simp -implicitDefEqProofs only [g3.1, g3.2, k3, v3, hm, hl1, hl2, hm2, hk, hN1, hN2, hb1, hb2, hb3, hb4, Int.natCast_nonneg, and_self, eq_self, decide_true, decide_false, Bool.and_self, Bool.or_self, Bool.and_true, Bool.true_and, Bool.and_false, Bool.false_and, Bool.or_true, Bool.true_or, Bool.or_false, Bool.false_or, Bool.not_true, Bool.not_false, cond_true, cond_false]
      · have gb : (decide (mid < mid + q - s) && decide (mid + q - s < b)) = false := by rw [← Bool.decide_and]; exact decide_eq_false g3
        simp -implicitDefEqProofs only [gb, C2 g3, decide_true, decide_false, Bool.and_self, Bool.or_self, Bool.and_true, Bool.true_and, Bool.and_false, Bool.false_and, Bool.or_true, Bool.true_or, Bool.or_false, Bool.false_or, Bool.not_true, Bool.not_false, cond_true, cond_false]
theorem run (N : Nat) : ∀ args H v new, R (N + 1) args H = some (true, v, new) → ∃ fuel, runFn Try.prog (orcW [⟨57, rotate.R⟩, ⟨55, R N⟩] [⟨38, sfcmp.R⟩]) hd Dr.std (some 0) fuel (bodyOf Try.f55) 220 [] args H = some (v, new) := by
  intro args H v new h
  unfold R at h
  split at h
  · rename_i m a q b ff os ts k
    simp only [Option.some.injEq, Prod.mk.injEq, decide_eq_true_eq, Bool.and_eq_true] at h
    obtain ⟨⟨⟨rfl, h1, h2, h3, h4, h5, h6, h7, rfl⟩, hok⟩, rfl, rfl⟩ := h
    obtain ⟨a, rfl⟩ : ∃ x : Nat, a = x := ⟨a.toNat, by omega⟩
    obtain ⟨q, rfl⟩ : ∃ x : Nat, q = x := ⟨q.toNat, by omega⟩
    obtain ⟨b, rfl⟩ : ∃ x : Nat, b = x := ⟨b.toNat, by omega⟩
    simp only [Int.toNat_natCast] at hok ⊢
    obtain ⟨F, hF⟩ : ∃ F : Nat, F = 2000 := ⟨2000, rfl⟩
    refine ⟨F, ?_⟩
    obtain ⟨P, M, S, ho, hp, hM⟩ := ss.parts (os := os) (a := a) (b := b) (by omega) (by omega)
    obtain ⟨l, r, rfl, hl⟩ : ∃ l r, M = l ++ r ∧ l.length = q - a := ⟨M.take (q - a), M.drop (q - a), (List.take_append_drop _ _).symm, by rw [List.length_take]; omega⟩
    rw [List.length_append] at hM
    rw [List.append_assoc] at ho
    have hq : a + l.length = q := by omega
    have hb : q + r.length = b := by omega
    generalize hm : os.length = m at *
    rw [ho] at hok
    obtain ⟨hin, sl, sr, hc⟩ := ss.okM_open hp hq hb hok
    rw [← ho] at hin
    have hres : ss.out.sv ts a b os = P ++ (ss.ms.sv ts (l ++ r) ++ S) := by
      rw [ho]
      have e : P ++ (l ++ (r ++ S)) = P ++ ((l ++ r) ++ S) := by simp
      rw [e]
      exact ss.out_app hp (by rw [List.length_append]; omega)
    have w1 : IntKind.i64.wrap ((q : Int) - (a : Int)) = ((q - a : Nat) : Int) := by rw [IntWalk.i64_in _ (by omega)]; omega
    have w2 : IntKind.i64.wrap ((b : Int) - (q : Int)) = ((b - q : Nat) : Int) := by rw [IntWalk.i64_in _ (by omega)]; omega
    have hh := ss.half a b (by omega)
    rw [start, w1, w2, hres]
    by_cases c1 : q - a = 1
    · have cb : (((q - a : Nat) : Int) == (1 : Int)) = true := by rw [c1]; rfl
      simp -implicitDefEqProofs only [cb, decide_true, decide_false, Bool.and_self, Bool.or_self, Bool.and_true, Bool.true_and, Bool.and_false, Bool.false_and, Bool.or_true, Bool.true_or, Bool.or_false, Bool.false_or, Bool.not_true, Bool.not_false, cond_true, cond_false]
      obtain ⟨x, rfl⟩ : ∃ x, l = [x] := by
        match l, hl with
        | [x], _ => exact ⟨x, rfl⟩
        | [], hl => simp at hl; omega
        | _ :: _ :: _, hl => simp at hl; omega
      have e : P ++ ([x] ++ (r ++ S)) = P ++ ([x] ++ (r ++ S)) := rfl
      obtain ⟨z1, z2, z3⟩ := ss.case_left (ts := ts) (P := P) (R := r) (S := S) (x := x) (a := a) (q := q) (b := b) (d := b - q) hp (by omega) hb sr hc (Nat.le_refl _)
      rw [← ho] at z1 z2 z3
      rw [loop0 ts os m k a N F hm h1 h7 hin (by omega) (b - q) q b F (by omega) (by omega) (Nat.le_refl _) (by omega)]
      generalize ss.bs.sv (fun h => ss.lt.sp ts (gz os h) (gz os a)) (b - q) q b = s at z1 z2 z3 ⊢
      rw [loop2 ts m k s N F h1 (by omega) (s - 1 - a) a F os hm (by omega) (by omega), z3]
    · have cb : (((q - a : Nat) : Int) == (1 : Int)) = false := by rw [beq_eq_false_iff_ne]; omega
      by_cases c2 : b - q = 1
      · have cb2 : (((b - q : Nat) : Int) == (1 : Int)) = true := by rw [c2]; rfl
        simp -implicitDefEqProofs only [cb, cb2, decide_true, decide_false, Bool.and_self, Bool.or_self, Bool.and_true, Bool.true_and, Bool.and_false, Bool.false_and, Bool.or_true, Bool.true_or, Bool.or_false, Bool.false_or, Bool.not_true, Bool.not_false, cond_true, cond_false]
        obtain ⟨y, rfl⟩ : ∃ y, r = [y] := by
          have hr : r.length = 1 := by omega
          match r, hr with
          | [y], _ => exact ⟨y, rfl⟩
        obtain ⟨z1, z2, z3⟩ := ss.case_right (ts := ts) (P := P) (L := l) (S := S) (y := y) (a := a) (q := q) (d := q - a) hp hq sl hc (Nat.le_refl _)
        rw [← ho] at z1 z2 z3
        rw [loop4 ts os m k q N F hm h1 h7 hin (by omega) (q - a) a q F (by omega) (by omega) (Nat.le_refl _) (by omega)]
        generalize ss.bs.sv (fun h => !ss.lt.sp ts (gz os q) (gz os h)) (q - a) a q = s at z1 z2 z3 ⊢
        have := loop6 ts m k s N F h1 (q - s) F os hm (by omega) (by omega)
        rw [show s + (q - s) = q from by omega, z3] at this
        exact this
      · have cb2 : (((b - q : Nat) : Int) == (1 : Int)) = false := by rw [beq_eq_false_iff_ne]; omega
        obtain ⟨mid, hmid⟩ : ∃ mid, mid = (a + b) / 2 := ⟨_, rfl⟩
        rw [← hmid] at hh
        have wq : IntKind.i64.wrap ((mid : Int) + (q : Int)) = ((mid + q : Nat) : Int) := by rw [IntWalk.i64_in _ (by omega)]; omega
        have wp : IntKind.i64.wrap (((mid + q : Nat) : Int) - 1) = ((mid + q - 1 : Nat) : Int) := by rw [IntWalk.i64_in _ (by omega)]; omega
        have go : ∀ lo hi : Nat, ((mid < q ∧ lo = mid + q - b ∧ hi = mid) ∨ (¬ mid < q ∧ lo = a ∧ hi = q)) → L8 N F F (mkS 220 [(0, .own 0 0 m 0 1), (1, .int .i64 (a : Int)), (2, .int .i64 (q : Int)), (3, .int .i64 (b : Int)), (4, .fn 38 [.ptr 1 0 0]), (18, .int .i64 (mid : Int)), (19, .int .i64 ((mid + q : Nat) : Int)), (20, .int .i64 (lo : Int)), (21, .int .i64 (hi : Int)), (22, .int .i64 ((mid + q - 1 : Nat) : Int))] [⟨.typ (.ints .i64 os), 0⟩, ⟨.cells [.ro (.ints .i64 ts) k 1], 0⟩]) = some (.tup [], [⟨.typ (.ints .i64 (P ++ (ss.ms.sv ts (l ++ r) ++ S))), 0⟩, ⟨.cells [.ro (.ints .i64 ts) k 1], 0⟩]) := by
          intro lo hi hlh
          obtain ⟨z1, z2, z3, z4, z5⟩ := ss.case_both (ts := ts) (P := P) (l := l) (r := r) (S := S) (d := hi - lo) hp hq hb sl sr hc (by omega) (by omega) hmid hlh (Nat.le_refl _)
          rw [← ho] at z1 z2 z3 z4 z5
          obtain ⟨n2, e⟩ := loop8 ts os m k a q b mid (mid + q) N F hm h1 h7 hin (hi - lo) lo hi F (by omega) (by omega) (fun h p1 p2 => by omega) (Nat.le_refl _) (by omega)
          rw [e]
          generalize ss.bs.sv (fun c => !ss.lt.sp ts (gz os (mid + q - 1 - c)) (gz os c)) (hi - lo) lo hi = s at z1 z2 z3 z4 z5 ⊢
          obtain ⟨O1, O2, y1, y2, A1, A2, B1, B2, C1, C2⟩ := ss.rest (k := k) hp hq hb sl sr hc (by rw [← ho]; exact hin) z1 z2 z3 z4 z5
          rw [← ho] at y1 y2 A1 A2
          exact exit8 ts os O1 O2 _ m k a q b mid s N F n2 hm h1 h7 (y1.trans hm) (y2.trans hm) (by omega) (by omega) (by omega) (by omega) (by omega) z2 z4 z3 A1 A2 B1 B2 C1 C2
        by_cases c3 : mid < q
        · have c4 : (mid : Int) < (q : Int) := by omega
          have wb : IntKind.i64.wrap (((mid + q : Nat) : Int) - (b : Int)) = ((mid + q - b : Nat) : Int) := by rw [IntWalk.i64_in _ (by omega)]; omega
          simp -implicitDefEqProofs only [cb, cb2, hh, c4, wq, wp, wb, decide_true, decide_false, Bool.and_self, Bool.or_self, Bool.and_true, Bool.true_and, Bool.and_false, Bool.false_and, Bool.or_true, Bool.true_or, Bool.or_false, Bool.false_or, Bool.not_true, Bool.not_false, cond_true, cond_false]
          exact go (mid + q - b) mid (Or.inl ⟨c3, rfl, rfl⟩)
        · have c4 : ¬ ((mid : Int) < (q : Int)) := by omega
          simp -implicitDefEqProofs only [cb, cb2, hh, c4, wq, wp, decide_true, decide_false, Bool.and_self, Bool.or_self, Bool.and_true, Bool.true_and, Bool.and_false, Bool.false_and, Bool.or_true, Bool.true_or, Bool.or_false, Bool.false_or, Bool.not_true, Bool.not_false, cond_true, cond_false]
          exact go a q (Or.inr ⟨c3, rfl, rfl⟩)
  · cases h
theorem run0 : ∀ args H v new, R 0 args H = some (true, v, new) → ∃ fuel, runFn Try.prog (orcW [⟨57, rotate.R⟩] [⟨38, sfcmp.R⟩]) hd Dr.std (some 0) fuel (bodyOf Try.f55) 220 [] args H = some (v, new) := by
  intro args H v new h
  unfold R at h
  split at h
  · simp only [Option.some.injEq, Prod.mk.injEq, decide_eq_true_eq, Bool.and_eq_true] at h
    obtain ⟨⟨⟨rfl, h1, h2, h3, h4, h5, h6, h7, rfl⟩, hok⟩, rfl, rfl⟩ := h
    omega
  · cases h
theorem ok : ∀ N, EntWOk Try.prog ⟨55, R N⟩ := by
  intro N
  induction N with
  | zero => exact entw_ok mixed (A := (orcW [⟨57, rotate.R⟩] [⟨38, sfcmp.R⟩])) (orcW_ok (by simp only [List.mem_cons, List.not_mem_nil, or_false, forall_eq_or_imp, forall_eq]; exact rotate.ok) (by simp only [List.mem_cons, List.not_mem_nil, or_false, forall_eq_or_imp, forall_eq]; exact sfcmp.ok)) Try.func55 (by kernel_rfl) (by kernel_rfl) (n := 220) (ts := []) (hd := hd) (dr := Dr.std) (cut := (some 0)) (by kernel_rfl) (by kernel_rfl) (by kernel_rfl) run0
  | succ N ih => exact entw_ok mixed (A := (orcW [⟨57, rotate.R⟩, ⟨55, R N⟩] [⟨38, sfcmp.R⟩])) (orcW_ok (by simp only [List.mem_cons, List.not_mem_nil, or_false, forall_eq_or_imp, forall_eq]; exact ⟨rotate.ok, ih⟩) (by simp only [List.mem_cons, List.not_mem_nil, or_false, forall_eq_or_imp, forall_eq]; exact sfcmp.ok)) Try.func55 (by kernel_rfl) (by kernel_rfl) (n := 220) (ts := []) (hd := hd) (dr := Dr.std) (cut := (some 0)) (by kernel_rfl) (by kernel_rfl) (by kernel_rfl) (run N)
end sy

end Go.Proofs.Ytadpndpbooofiaa.Ab
