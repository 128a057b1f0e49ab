/-
  Rooms are searched: what both sides come to.
-/
import Derived.Test.YtchebdconomdoaaFnUO
namespace Go.Proofs.Ytchebdconomdoaa.Ab
open Go
set_option linter.unusedVariables false
set_option linter.unusedSimpArgs false
set_option maxRecDepth 100000

set_option maxRecDepth 100000
namespace rms
theorem full_out {fs : List (List Int)} {N : Nat} {rm : List Int} (h : ft.sv rm = -1) : rf.sp fs (N + 1) rm = q.sp fs rm ∧ ro.sv fs (N + 1) rm = rm := by
  have hn : ((-1 : Int) < 0) := by decide
  unfold rf.sp ro.sv
  simp only [rc, h, hn, decide_true, cond_true]
  cases q.sp fs rm <;> exact ⟨rfl, rfl⟩
theorem some_out {fs : List (List Int)} {N j : Nat} {rm : List Int} (h : ft.sv rm = (j : Int)) : rc fs (N + 1) rm = lp (rc fs N) j rm (rm.length - (j + 1)) (j + 1) := by
  have hn : ¬ ((j : Int) < 0) := by omega
  simp only [rc, h, hn, decide_false, cond_false, Int.toNat_natCast]
end rms
namespace l05Rooms
theorem loopA (fs : List (List Int)) (rm : List Int) (N f : Nat) (hl : rm.length = fs.length) (h8 : fs.length ≤ 1000) : ∀ (d i n : Nat) (a : Int), (a = -1 ∨ 0 ≤ a) → i + d = fs.length → d < n →
    LA N f n (mkS 59 [(0, .ro (.rows .i64 fs) fs.length 1), (1, .own 0 0 fs.length 0 1), (4, .bool false), (5, .int .i64 (a)), (9, .int .i64 fs.length), (10, .int .i64 (i : Nat))] [⟨.typ (.ints .i64 rm), 0⟩]) = LA N f 1 (mkS 59 [(0, .ro (.rows .i64 fs) fs.length 1), (1, .own 0 0 fs.length 0 1), (4, .bool false), (5, .int .i64 (bif decide (a < 0) then fidx.sq (fun x : Int => decide (x < 0)) (rm.drop i) i else a)), (9, .int .i64 fs.length), (10, .int .i64 (fs.length : Nat))] [⟨.typ (.ints .i64 rm), 0⟩]) := by
  intro d
  induction d with
  | zero =>
    intro i n a ha hi hn
    obtain ⟨n, rfl⟩ : ∃ k, n = k + 1 := ⟨n - 1, by omega⟩
    obtain rfl : i = fs.length := by omega
    have e : rm.drop fs.length = [] := List.drop_of_length_le (by omega)
    have e2 : (bif decide (a < 0) then (-1) else a) = a := by
      rcases ha with rfl | ha
      · rfl
      · have : ¬ a < 0 := by omega
        simp -implicitDefEqProofs only [this, and_self, decide_true, decide_false, Bool.and_self, Bool.or_self, Bool.and_true, Bool.true_and, Bool.and_false, Bool.false_and, Bool.or_true, Bool.true_or, Bool.or_false, Bool.false_or, Bool.not_true, Bool.not_false, cond_true, cond_false]
    have h := roundA fs rm fs.length fs.length a fs.length N f n
    have h' := roundA fs rm fs.length fs.length a fs.length N f 0
    rw [e]
    simp -implicitDefEqProofs only [fidx.sq]
    rw [e2, h, h']
    simp -implicitDefEqProofs only [Int.lt_irrefl, and_self, decide_true, decide_false, Bool.and_self, Bool.or_self, Bool.and_true, Bool.true_and, Bool.and_false, Bool.false_and, Bool.or_true, Bool.true_or, Bool.or_false, Bool.false_or, Bool.not_true, Bool.not_false, cond_true, cond_false]
  | succ d ih =>
    intro i n a ha hi hn
    obtain ⟨n, rfl⟩ : ∃ k, n = k + 1 := ⟨n - 1, by omega⟩
    have h4 : (0 : Int) ≤ (i : Int) := Int.natCast_nonneg _
    have h5 : (i : Int) < (fs.length : Int) := by omega
    have x1 : i < rm.length := by omega
    have x4 : ¬ ((i : Int) < 0) := by omega
    have hd : rm.drop i = gz rm i :: rm.drop (i + 1) := by rw [gz_eq x1]; exact List.drop_eq_getElem_cons x1
    have h := roundA fs rm fs.length fs.length a i N f n
    rw [h, hd]
    simp -implicitDefEqProofs only [fidx.sq, h4, h5, x1, Int.toNat_natCast, wrap_nat i (by omega), and_self, decide_true, decide_false, Bool.and_self, Bool.or_self, Bool.and_true, Bool.true_and, Bool.and_false, Bool.false_and, Bool.or_true, Bool.true_or, Bool.or_false, Bool.false_or, Bool.not_true, Bool.not_false, cond_true, cond_false]
    rcases ha with rfl | ha
    · have hneg : ((-1 : Int) < 0) := by decide
      have hih := ih (i + 1) n (-1) (.inl rfl) (by omega) (by omega)
      have hih2 := ih (i + 1) n (i : Int) (.inr h4) (by omega) (by omega)
      simp -implicitDefEqProofs only [hneg, x4, and_self, decide_true, decide_false, Bool.and_self, Bool.or_self, Bool.and_true, Bool.true_and, Bool.and_false, Bool.false_and, Bool.or_true, Bool.true_or, Bool.or_false, Bool.false_or, Bool.not_true, Bool.not_false, cond_true, cond_false] at hih hih2
      simp -implicitDefEqProofs only [hneg, and_self, decide_true, decide_false, Bool.and_self, Bool.or_self, Bool.and_true, Bool.true_and, Bool.and_false, Bool.false_and, Bool.or_true, Bool.true_or, Bool.or_false, Bool.false_or, Bool.not_true, Bool.not_false, cond_true, cond_false]
      by_cases c1 : gz rm i < 0
      · simp -implicitDefEqProofs only [c1, and_self, decide_true, decide_false, Bool.and_self, Bool.or_self, Bool.and_true, Bool.true_and, Bool.and_false, Bool.false_and, Bool.or_true, Bool.true_or, Bool.or_false, Bool.false_or, Bool.not_true, Bool.not_false, cond_true, cond_false]; exact hih2
      · simp -implicitDefEqProofs only [c1, and_self, decide_true, decide_false, Bool.and_self, Bool.or_self, Bool.and_true, Bool.true_and, Bool.and_false, Bool.false_and, Bool.or_true, Bool.true_or, Bool.or_false, Bool.false_or, Bool.not_true, Bool.not_false, cond_true, cond_false]; exact hih
    · have hneg : ¬ (a < 0) := by omega
      have hih := ih (i + 1) n a (.inr ha) (by omega) (by omega)
      simp -implicitDefEqProofs only [hneg, and_self, decide_true, decide_false, Bool.and_self, Bool.or_self, Bool.and_true, Bool.true_and, Bool.and_false, Bool.false_and, Bool.or_true, Bool.true_or, Bool.or_false, Bool.false_or, Bool.not_true, Bool.not_false, cond_true, cond_false] at hih
      simp -implicitDefEqProofs only [hneg, and_self, decide_true, decide_false, Bool.and_self, Bool.or_self, Bool.and_true, Bool.true_and, Bool.and_false, Bool.false_and, Bool.or_true, Bool.true_or, Bool.or_false, Bool.false_or, Bool.not_true, Bool.not_false, cond_true, cond_false]
      exact hih
theorem loopB (fs : List (List Int)) (rm : List Int) (A N f : Nat) (hv : rms.va.sp fs = true) (hg : rms.rg.sp fs.length (-1) rm = true) (hN : rms.ng.sv rm < N + 1) (hA : A < fs.length) (hAn : gz rm A = -1) : ∀ (d k n : Nat), A < k → k + d = fs.length → d < n →
    LB N f n (mkS 59 [(0, .ro (.rows .i64 fs) fs.length 1), (1, .own 0 0 fs.length 0 1), (4, .bool false), (5, .int .i64 (A : Nat)), (7, .int .i64 (k : Nat))] [⟨.typ (.ints .i64 rm), 0⟩]) = some (.bool (rms.lp (rms.rc fs N) A rm d k).isSome, [⟨.typ (.ints .i64 ((rms.lp (rms.rc fs N) A rm d k).getD rm)), 0⟩]) := by
  obtain ⟨hl, hg'⟩ := rms.rg_get hg
  obtain ⟨hn2, hn8⟩ := rms.va_len hv
  have A0 : (0 : Int) ≤ (A : Int) := Int.natCast_nonneg _
  have A1 : (A : Int) < (fs.length : Int) := by omega
  intro d
  induction d with
  | zero =>
    intro k n hAk hk hn
    obtain ⟨n, rfl⟩ : ∃ k, n = k + 1 := ⟨n - 1, by omega⟩
    obtain rfl : k = fs.length := by omega
    rw [roundB]
    simp -implicitDefEqProofs only [Int.lt_irrefl, rms.lp, Option.isSome_none, Option.getD_none, and_self, decide_true, decide_false, Bool.and_self, Bool.or_self, Bool.and_true, Bool.true_and, Bool.and_false, Bool.false_and, Bool.or_true, Bool.true_or, Bool.or_false, Bool.false_or, Bool.not_true, Bool.not_false, cond_true, cond_false]
  | succ d ih =>
    intro k n hAk hk hn
    obtain ⟨n, rfl⟩ : ∃ k, n = k + 1 := ⟨n - 1, by omega⟩
    have k4 : (0 : Int) ≤ (k : Int) := Int.natCast_nonneg _
    have k5 : (k : Int) < (fs.length : Int) := by omega
    have k2 : k < fs.length := by omega
    have hih := ih (k + 1) n (by omega) (by omega) (by omega)
    rw [roundB]
    by_cases c : 0 ≤ gz rm k
    · simp -implicitDefEqProofs only [k4, k5, k2, hl, c, rms.lp, Int.toNat_natCast, wrap_nat k (by omega), and_self, decide_true, decide_false, Bool.and_self, Bool.or_self, Bool.and_true, Bool.true_and, Bool.and_false, Bool.false_and, Bool.or_true, Bool.true_or, Bool.or_false, Bool.false_or, Bool.not_true, Bool.not_false, cond_true, cond_false]
      exact hih
    · have gk : gz rm k = -1 := by have := (hg' k k2).1; omega
      have e2 : (rm.set A (k : Int)).set k (A : Int) = rms.two.sv rm A k := rfl
      have t1 := rms.two_ng (rm := rm) (a := A) (k := k) (by omega) (by omega)
      have t2 : rms.ng.sv (rms.two.sv rm A k) < N := by omega
      have t3 := rms.two_rg hg hA k2
      have t4 := rms.two_len rm A k
      have t5 := rms.back hAn gk (by omega) (by omega)
      cases hr : rms.rc fs N (rms.two.sv rm A k) with
      | some r =>
        have f1 : rms.rf.sp fs N (rms.two.sv rm A k) = true := by unfold rms.rf.sp; rw [hr]; rfl
        have f2 : rms.ro.sv fs N (rms.two.sv rm A k) = r := by unfold rms.ro.sv; rw [hr]; rfl
        simp -implicitDefEqProofs only [k4, k5, k2, hl, hA, A0, A1, c, e2, t2, t3, hv, f1, f2, hr, rms.lp, Option.isSome_some, Option.getD_some, List.length_set, Int.toNat_natCast, wrap_nat k (by omega), true_and, and_true, eq_self, and_self, decide_true, decide_false, Bool.and_self, Bool.or_self, Bool.and_true, Bool.true_and, Bool.and_false, Bool.false_and, Bool.or_true, Bool.true_or, Bool.or_false, Bool.false_or, Bool.not_true, Bool.not_false, cond_true, cond_false]
      | none =>
        have f1 : rms.rf.sp fs N (rms.two.sv rm A k) = false := by unfold rms.rf.sp; rw [hr]; rfl
        have f2 : rms.ro.sv fs N (rms.two.sv rm A k) = rms.two.sv rm A k := by unfold rms.ro.sv; rw [hr]; rfl
        simp -implicitDefEqProofs only [k4, k5, k2, hl, hA, A0, A1, c, e2, t2, t3, t4, t5, hv, f1, f2, hr, rms.lp, List.length_set, Int.toNat_natCast, wrap_nat k (by omega), true_and, and_true, eq_self, and_self, decide_true, decide_false, Bool.and_self, Bool.or_self, Bool.and_true, Bool.true_and, Bool.and_false, Bool.false_and, Bool.or_true, Bool.true_or, Bool.or_false, Bool.false_or, Bool.not_true, Bool.not_false, cond_true, cond_false]
        exact hih
theorem run (N : Nat) : ∀ args H v new, R (N + 1) args H = some (true, v, new) → ∃ fuel, runFn Try.prog (orcW [⟨55, R N⟩] [⟨95, l05Quiet.R⟩]) hd Dr.std none fuel (bodyOf Try.f55) 59 [4] args H = some (v, new) := by
  intro args H v new h
  unfold R at h
  split at h
  · rename_i fs m p rm
    simp only [Option.some.injEq, Prod.mk.injEq, decide_eq_true_eq, Bool.and_eq_true] at h
    obtain ⟨⟨⟨rfl, rfl, hN⟩, hv, hg⟩, rfl, rfl⟩ := h
    obtain ⟨hl, hg'⟩ := rms.rg_get hg
    obtain ⟨hn2, hn8⟩ := rms.va_len hv
    obtain ⟨F, hF⟩ : ∃ F : Nat, F = fs.length + 5 := ⟨_, rfl⟩
    refine ⟨F, ?_⟩
    rw [start]
    have hA := loopA fs rm N F hl (by omega) fs.length 0 F (-1) (.inl rfl) (by omega) (by omega)
    have hfi : (bif decide ((-1:Int) < 0) then fidx.sq (fun x : Int => decide (x < 0)) (rm.drop 0) 0 else -1) = rms.ft.sv rm := by rw [List.drop_zero]; rfl
    rw [hfi] at hA
    simp -implicitDefEqProofs only [and_self, decide_true, decide_false, Bool.and_self, Bool.or_self, Bool.and_true, Bool.true_and, Bool.and_false, Bool.false_and, Bool.or_true, Bool.true_or, Bool.or_false, Bool.false_or, Bool.not_true, Bool.not_false, cond_true, cond_false]
    refine Eq.trans hA ?_
    rcases rms.ft_cases rm with ⟨hf, h0⟩ | ⟨j, hj, hf, hjn⟩
    · obtain ⟨f1, f2⟩ := rms.full_out (fs := fs) (N := N) hf
      have hr := rms.rg_full hg h0
      have hneg : ((-1 : Int) < 0) := by decide
      rw [hf, f1, f2]
      rw [roundA]
      simp -implicitDefEqProofs only [Int.lt_irrefl, hneg, hv, hr, and_self, and_self, decide_true, decide_false, Bool.and_self, Bool.or_self, Bool.and_true, Bool.true_and, Bool.and_false, Bool.false_and, Bool.or_true, Bool.true_or, Bool.or_false, Bool.false_or, Bool.not_true, Bool.not_false, cond_true, cond_false]
    · have hj' : j < fs.length := by omega
      have hjn' : gz rm j = -1 := by have := (hg' j hj').1; omega
      have hb := loopB fs rm j N F hv hg hN hj' hjn' (fs.length - (j + 1)) (j + 1) F (by omega) (by omega) (by omega)
      have hnn : ¬ ((j : Int) < 0) := by omega
      have f1 : rms.rf.sp fs (N + 1) rm = (rms.lp (rms.rc fs N) j rm (fs.length - (j + 1)) (j + 1)).isSome := by unfold rms.rf.sp; rw [rms.some_out hf, hl]
      have f2 : rms.ro.sv fs (N + 1) rm = (rms.lp (rms.rc fs N) j rm (fs.length - (j + 1)) (j + 1)).getD rm := by unfold rms.ro.sv; rw [rms.some_out hf, hl]
      rw [hf, f1, f2]
      rw [roundA]
      simp -implicitDefEqProofs only [Int.lt_irrefl, hnn, wrap_nat j (by omega), and_self, decide_true, decide_false, Bool.and_self, Bool.or_self, Bool.and_true, Bool.true_and, Bool.and_false, Bool.false_and, Bool.or_true, Bool.true_or, Bool.or_false, Bool.false_or, Bool.not_true, Bool.not_false, cond_true, cond_false]
      exact hb

  · cases h
theorem run0 : ∀ args H v new, R 0 args H = some (true, v, new) → ∃ fuel, runFn Try.prog (orc [⟨95, l05Quiet.R⟩]) hd Dr.std none fuel (bodyOf Try.f55) 59 [4] args H = some (v, new) := by
  intro args H v new h
  unfold R at h
  split at h
  · simp only [Option.some.injEq, Prod.mk.injEq, decide_eq_true_eq, Bool.and_eq_true] at h
    obtain ⟨⟨h1, h2⟩, h3⟩ := h
    exact absurd h1.2.2 (by first | exact Nat.not_lt_zero _ | (intro hh; exact Nat.not_lt_zero _ hh.1))
  · cases h
theorem ok : ∀ N, EntWOk Try.prog ⟨55, R N⟩ := by
  intro N
  induction N with
  | zero => exact entw_ok mixed (A := (orc [⟨95, l05Quiet.R⟩])) (orc_ok (by simp only [List.mem_cons, List.not_mem_nil, or_false, forall_eq_or_imp, forall_eq]; exact l05Quiet.ok)) Try.func55 (by kernel_rfl) (by kernel_rfl) (n := 59) (ts := [4]) (hd := hd) (dr := Dr.std) (cut := none) (by kernel_rfl) (by kernel_rfl) (by kernel_rfl) run0
  | succ N ih => exact entw_ok mixed (A := (orcW [⟨55, R N⟩] [⟨95, l05Quiet.R⟩])) (orcW_ok (by simp only [List.mem_cons, List.not_mem_nil, or_false, forall_eq_or_imp, forall_eq]; exact ih) (by simp only [List.mem_cons, List.not_mem_nil, or_false, forall_eq_or_imp, forall_eq]; exact l05Quiet.ok)) Try.func55 (by kernel_rfl) (by kernel_rfl) (n := 59) (ts := [4]) (hd := hd) (dr := Dr.std) (cut := none) (by kernel_rfl) (by kernel_rfl) (by kernel_rfl) (run N)
end l05Rooms
namespace iRooms
theorem loopB (fs : List (List Int)) (rm : List Int) (A N f : Nat) (hv : rms.va.sp fs = true) (hg : rms.rg.sp fs.length (-1) rm = true) (hN : rms.ng.sv rm < N + 1) (hA : A < fs.length) (hAn : gz rm A = -1) : ∀ (d k n : Nat), A < k → k + d = fs.length → d < n →
    LB N f n (mkS 42 [(0, .rom [.own 0 0 fs.length 0 1] 0), (1, .rom [.ro (.rows .i64 fs) fs.length 1] 0), (2, .ptr 1 0 0), (3, .bool false), (4, .int .i64 (A : Nat)), (5, .int .i64 (k : Nat))] [⟨.typ (.ints .i64 rm), 0⟩, ⟨.cells [.fn 58 [.rom [.own 0 0 fs.length 0 1] 0, .rom [.ro (.rows .i64 fs) fs.length 1] 0, .ptr 1 0 0]], 0⟩]) = some (.bool (rms.lp (rms.rc fs N) A rm d k).isSome, [⟨.typ (.ints .i64 ((rms.lp (rms.rc fs N) A rm d k).getD rm)), 0⟩, ⟨.cells [.fn 58 [.rom [.own 0 0 fs.length 0 1] 0, .rom [.ro (.rows .i64 fs) fs.length 1] 0, .ptr 1 0 0]], 0⟩]) := by
  obtain ⟨hl, hg'⟩ := rms.rg_get hg
  obtain ⟨hn2, hn8⟩ := rms.va_len hv
  have A0 : (0 : Int) ≤ (A : Int) := Int.natCast_nonneg _
  have A1 : (A : Int) < (fs.length : Int) := by omega
  intro d
  induction d with
  | zero =>
    intro k n hAk hk hn
    obtain ⟨n, rfl⟩ : ∃ k, n = k + 1 := ⟨n - 1, by omega⟩
    obtain rfl : k = fs.length := by omega
    rw [roundB]
    simp -implicitDefEqProofs only [Int.lt_irrefl, rms.lp, Option.isSome_none, Option.getD_none, and_self, decide_true, decide_false, Bool.and_self, Bool.or_self, Bool.and_true, Bool.true_and, Bool.and_false, Bool.false_and, Bool.or_true, Bool.true_or, Bool.or_false, Bool.false_or, Bool.not_true, Bool.not_false, cond_true, cond_false]
  | succ d ih =>
    intro k n hAk hk hn
    obtain ⟨n, rfl⟩ : ∃ k, n = k + 1 := ⟨n - 1, by omega⟩
    have k4 : (0 : Int) ≤ (k : Int) := Int.natCast_nonneg _
    have k5 : (k : Int) < (fs.length : Int) := by omega
    have k2 : k < fs.length := by omega
    have hih := ih (k + 1) n (by omega) (by omega) (by omega)
    rw [roundB]
    by_cases c : 0 ≤ gz rm k
    · simp -implicitDefEqProofs only [k4, k5, k2, hl, c, rms.lp, Int.toNat_natCast, wrap_nat k (by omega), and_self, decide_true, decide_false, Bool.and_self, Bool.or_self, Bool.and_true, Bool.true_and, Bool.and_false, Bool.false_and, Bool.or_true, Bool.true_or, Bool.or_false, Bool.false_or, Bool.not_true, Bool.not_false, cond_true, cond_false]
      exact hih
    · have gk : gz rm k = -1 := by have := (hg' k k2).1; omega
      have e2 : (rm.set A (k : Int)).set k (A : Int) = rms.two.sv rm A k := rfl
      have t1 := rms.two_ng (rm := rm) (a := A) (k := k) (by omega) (by omega)
      have t2 : rms.ng.sv (rms.two.sv rm A k) < N := by omega
      have t3 := rms.two_rg hg hA k2
      have t4 := rms.two_len rm A k
      have t5 := rms.back hAn gk (by omega) (by omega)
      cases hr : rms.rc fs N (rms.two.sv rm A k) with
      | some r =>
        have f1 : rms.rf.sp fs N (rms.two.sv rm A k) = true := by unfold rms.rf.sp; rw [hr]; rfl
        have f2 : rms.ro.sv fs N (rms.two.sv rm A k) = r := by unfold rms.ro.sv; rw [hr]; rfl
        simp -implicitDefEqProofs only [k4, k5, k2, hl, hA, A0, A1, c, e2, t2, t3, hv, f1, f2, hr, rms.lp, Option.isSome_some, Option.getD_some, List.length_set, Int.toNat_natCast, wrap_nat k (by omega), true_and, and_true, eq_self, and_self, decide_true, decide_false, Bool.and_self, Bool.or_self, Bool.and_true, Bool.true_and, Bool.and_false, Bool.false_and, Bool.or_true, Bool.true_or, Bool.or_false, Bool.false_or, Bool.not_true, Bool.not_false, cond_true, cond_false]
      | none =>
        have f1 : rms.rf.sp fs N (rms.two.sv rm A k) = false := by unfold rms.rf.sp; rw [hr]; rfl
        have f2 : rms.ro.sv fs N (rms.two.sv rm A k) = rms.two.sv rm A k := by unfold rms.ro.sv; rw [hr]; rfl
        simp -implicitDefEqProofs only [k4, k5, k2, hl, hA, A0, A1, c, e2, t2, t3, t4, t5, hv, f1, f2, hr, rms.lp, List.length_set, Int.toNat_natCast, wrap_nat k (by omega), true_and, and_true, eq_self, and_self, decide_true, decide_false, Bool.and_self, Bool.or_self, Bool.and_true, Bool.true_and, Bool.and_false, Bool.false_and, Bool.or_true, Bool.true_or, Bool.or_false, Bool.false_or, Bool.not_true, Bool.not_false, cond_true, cond_false]
        exact hih
theorem run (N : Nat) : ∀ args H v new, R (N + 1) args H = some (true, v, new) → ∃ fuel, runFn Try.prog (orcW [⟨58, R N⟩] [⟨59, slIndex.R⟩, ⟨60, keepRooms.R⟩]) hd dr none fuel (bodyOf Try.f58) 42 [3] args H = some (v, new) := by
  intro args H v new h
  unfold R at h
  split at h
  · rename_i p fs m rm ff p' gs m'
    simp only [Option.some.injEq, Prod.mk.injEq, decide_eq_true_eq, Bool.and_eq_true] at h
    obtain ⟨⟨⟨g1, g2, hN, g3, g4, g5, g6⟩, hv, hg⟩, rfl, rfl⟩ := h
    subst gs m' p' ff p m
    obtain ⟨hl, hg'⟩ := rms.rg_get hg
    obtain ⟨hn2, hn8⟩ := rms.va_len hv
    obtain ⟨F, hF⟩ : ∃ F : Nat, F = fs.length + 5 := ⟨_, rfl⟩
    refine ⟨F, ?_⟩
    rw [start]
    have e1 : rm.take fs.length = rm := List.take_of_length_le (by omega)
    have e2 : fidx.sq (fun y : Int => (-1 : Int) == y) rm 0 = rms.ft.sv rm := by rw [has_comm]; exact rms.ft_has hg
    have e3 : fs.length ≤ rm.length := by omega
    have e4 : fs.length ≤ 4611686018427387904 := by omega
    rw [e1, e2]
    rcases rms.ft_cases rm with ⟨hf, h0⟩ | ⟨j, hj, hf, hjn⟩
    · obtain ⟨f1, f2⟩ := rms.full_out (fs := fs) (N := N) hf
      have hr := rms.rg_full hg h0
      have hneg : ((-1 : Int) < 0) := by decide
      rw [hf, f1, f2]
      simp -implicitDefEqProofs only [e3, e4, hneg, hv, hr, and_self, and_self, decide_true, decide_false, Bool.and_self, Bool.or_self, Bool.and_true, Bool.true_and, Bool.and_false, Bool.false_and, Bool.or_true, Bool.true_or, Bool.or_false, Bool.false_or, Bool.not_true, Bool.not_false, cond_true, cond_false]
    · have hj' : j < fs.length := by omega
      have hjn' : gz rm j = -1 := by have := (hg' j hj').1; omega
      have hb := loopB fs rm j N F hv hg hN hj' hjn' (fs.length - (j + 1)) (j + 1) F (by omega) (by omega) (by omega)
      have hnn : ¬ ((j : Int) < 0) := by omega
      have f1 : rms.rf.sp fs (N + 1) rm = (rms.lp (rms.rc fs N) j rm (fs.length - (j + 1)) (j + 1)).isSome := by unfold rms.rf.sp; rw [rms.some_out hf, hl]
      have f2 : rms.ro.sv fs (N + 1) rm = (rms.lp (rms.rc fs N) j rm (fs.length - (j + 1)) (j + 1)).getD rm := by unfold rms.ro.sv; rw [rms.some_out hf, hl]
      rw [hf, f1, f2]
      simp -implicitDefEqProofs only [e3, e4, hnn, wrap_nat j (by omega), and_self, and_self, decide_true, decide_false, Bool.and_self, Bool.or_self, Bool.and_true, Bool.true_and, Bool.and_false, Bool.false_and, Bool.or_true, Bool.true_or, Bool.or_false, Bool.false_or, Bool.not_true, Bool.not_false, cond_true, cond_false]
      exact hb

  · cases h
theorem run0 : ∀ args H v new, R 0 args H = some (true, v, new) → ∃ fuel, runFn Try.prog (orc [⟨59, slIndex.R⟩, ⟨60, keepRooms.R⟩]) hd dr none fuel (bodyOf Try.f58) 42 [3] args H = some (v, new) := by
  intro args H v new h
  unfold R at h
  split at h
  · simp only [Option.some.injEq, Prod.mk.injEq, decide_eq_true_eq, Bool.and_eq_true] at h
    obtain ⟨⟨h1, h2⟩, h3⟩ := h
    exact absurd h1.2.2 (by first | exact Nat.not_lt_zero _ | (intro hh; exact Nat.not_lt_zero _ hh.1))
  · cases h
theorem ok : ∀ N, EntWOk Try.prog ⟨58, R N⟩ := by
  intro N
  induction N with
  | zero => exact entw_ok mixed (A := (orc [⟨59, slIndex.R⟩, ⟨60, keepRooms.R⟩])) (orc_ok (by simp only [List.mem_cons, List.not_mem_nil, or_false, forall_eq_or_imp, forall_eq]; exact ⟨slIndex.ok, keepRooms.ok⟩)) Try.func58 (by kernel_rfl) (by kernel_rfl) (n := 42) (ts := [3]) (hd := hd) (dr := dr) (cut := none) (by kernel_rfl) (by kernel_rfl) (by kernel_rfl) run0
  | succ N ih => exact entw_ok mixed (A := (orcW [⟨58, R N⟩] [⟨59, slIndex.R⟩, ⟨60, keepRooms.R⟩])) (orcW_ok (by simp only [List.mem_cons, List.not_mem_nil, or_false, forall_eq_or_imp, forall_eq]; exact ih) (by simp only [List.mem_cons, List.not_mem_nil, or_false, forall_eq_or_imp, forall_eq]; exact ⟨slIndex.ok, keepRooms.ok⟩)) Try.func58 (by kernel_rfl) (by kernel_rfl) (n := 42) (ts := [3]) (hd := hd) (dr := dr) (cut := none) (by kernel_rfl) (by kernel_rfl) (by kernel_rfl) (run N)
end iRooms
end Go.Proofs.Ytchebdconomdoaa.Ab
